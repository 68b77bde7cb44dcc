/- Merged out of this session's texts: Pc, Qxf49, Qxf50, Pe, Xa, Ry, Ryi -/
import Derived.Test.YtbodlnoipkommaaDoorZB8
import Derived.Test.YtbodlnoipkommaaDoorZB10
import Derived.Test.YtbodlnoipkommaaDoorZB1
import Derived.Test.YtbodlnoipkommaaDoorZB9
import Derived.Deep.RegionHeld3
import Derived.Test.YtbodlnoipkommaaDoorRows
import Derived.Test.YtbodlnoipkommaaDoorZB6
import Derived.Lib.LaidU8
import Derived.Lib.SmallJoins
import Derived.MakeChecks
import Derived.HandedShaped
import Derived.ChangeSame
import Derived.LaidMore
import Derived.Lay
import Derived.SevenTiedAt
import Derived.Stop.Joined
import Derived.Test.YtbodlnoipkommaaDoorTie
import Derived.Test.YtbodlnoipkommaaDoorCards
import Derived.WalkKit
import Derived.ProofKit
import Derived.OpenShut
import Derived.ShutString
import Derived.ChangeOld
import Derived.Below
import Derived.SizedLaws
/- value's functions in plain Lean: Mul. -/
namespace Go.Proofs.YtbodlnoipkommaaDoor.Pc
open Go.RowKit Go.Proofs.YtbodlnoipkommaaDoor.Q Go.Proofs.YtbodlnoipkommaaDoor.We Go.Proofs.YtbodlnoipkommaaDoor.Wf Go.Proofs.YtbodlnoipkommaaDoor.Wg Go.Proofs.YtbodlnoipkommaaDoor.Wh Go.Proofs.YtbodlnoipkommaaDoor.Wj Go.Proofs.YtbodlnoipkommaaDoor.Wk Go.Proofs.YtbodlnoipkommaaDoor.Wl Go.Proofs.YtbodlnoipkommaaDoor.Wo Go.Proofs.YtbodlnoipkommaaDoor.Wp Go.Proofs.YtbodlnoipkommaaDoor.Wq Go.Proofs.YtbodlnoipkommaaDoor.Ws Go.Proofs.YtbodlnoipkommaaDoor.Wt Go.Proofs.YtbodlnoipkommaaDoor.Pa Go.Proofs.YtbodlnoipkommaaDoor.Pb Go.Proofs.YtbodlnoipkommaaDoorW.PrintWords Go.Proofs.YtbodlnoipkommaaDoorW.PrintLast Go.Proofs.YtbodlnoipkommaaDoorW.PrintMore
def absI (p : Int) : Int := if p < 0 then -p else p
/-- A size over ten thousand, rounded to the nearest, a half to the even one. -/
def rnd (A : Int) : Int := if A % 10000 > 5000 ∨ A % 10000 = 5000 ∧ A / 10000 % 2 = 1 then A / 10000 + 1 else A / 10000
def mulR (k0 n0 : Int) (s0 : ByteArray) (k1 n1 : Int) (s1 : ByteArray) : V4 :=
  if (askedR k0 n0 s0 k1 n1 s1).2 ≠ 0 ∨ (askedR k0 n0 s0 k1 n1 s1).1 = true then (0, 0, ⟨#[]⟩, (askedR k0 n0 s0 k1 n1 s1).2) else
  if k0 ≠ k1 then toldR 3 (n0 * n1) else
  if k0 = 2 then toldR 2 (n0 * n1) else toldR 3 (if n0 * n1 < 0 then -rnd (absI (n0 * n1)) else rnd (absI (n0 * n1)))
theorem abs_prod (a b : Int) (ha : I64 a) (hb : I64 b) : 0 ≤ absI (a * b) ∧ absI (a * b) ≤ 85070591730234615865843651857942052864 := by
  have h := prod_le _ _ (abs_le a ha) (abs_le b hb)
  rw [abs_mul'] at h
  unfold absI
  split at h <;> split <;> omega
theorem j2_f (j : Nat) (neg : Bool) (Q : Int) (h0 : 0 ≤ Q) (h1 : Q ≤ 85070591730234615865843651857942052865) :
    value_Mul.j2 (j + 1) neg (hi Q) (lo Q) = some (toldR 3 (if neg = true then -Q else Q)) := by
  have i1 : I128 Q := ⟨by omega, by omega⟩
  have i2 : I128 (-Q) := ⟨by omega, by omega⟩
  rw [value_Mul.j2]
  cases neg
  · simp only [Bool.false_eq_true, if_false]
    rw [told_fR _ _ i1]; rfl
  · simp only [if_true]
    rw [minus_f Q i1 i2]
    simp only [Option.bind_some]
    rw [told_fR _ _ i2]; rfl
theorem one_f : value_of.f 1 = some (hi 1, lo 1) := of_f 1 (by decide)
theorem j1m_f (j : Nat) (neg up : Bool) (Q : Int) (h0 : 0 ≤ Q) (h1 : Q ≤ 85070591730234615865843651857942052864) :
    value_Mul.j1 (j + 2) neg up (hi Q) (lo Q) = some (toldR 3 (if neg = true then -(if up = true then Q + 1 else Q) else (if up = true then Q + 1 else Q))) := by
  rw [value_Mul.j1]
  cases up
  · simp only [Bool.false_eq_true, if_false]
    exact j2_f j neg Q h0 (by omega)
  · simp only [if_true]
    rw [one_f]
    simp only [Option.bind_some]
    rw [plus_f Q 1 ⟨by omega, by omega⟩ ⟨by omega, by omega⟩ ⟨by omega, by omega⟩]
    simp only [Option.bind_some]
    exact j2_f j neg (Q + 1) (by omega) (by omega)
theorem div_f (A : Int) (h0 : 0 ≤ A) (h1 : A ≤ 85070591730234615865843651857942052864) :
    bits_Div64.f (Int.tmod (hi A) 10000) (lo A) 10000 = some (lo (A / 10000), A % 10000) ∧ wrap64 (IntKind.u64.wrap (Int.tdiv (hi A) 10000)) = hi (A / 10000) := by
  have g0 : 0 ≤ hi A := by unfold hi; omega
  have g1 : hi A < 9223372036854775808 := by unfold hi; omega
  have l0 := lo_word A
  rw [Int.tmod_eq_emod_of_nonneg g0, Int.tdiv_eq_ediv_of_nonneg g0]
  have hA : A = hi A * 18446744073709551616 + lo A := by unfold hi lo; omega
  constructor
  · unfold bits_Div64.f
    rw [if_pos ⟨⟨by omega, by omega⟩, l0, rfl⟩]
    obtain ⟨l0, l1⟩ := l0
    have e1 : (hi A % 10000 * 18446744073709551616 + lo A) / 10000 = lo (A / 10000) := by
      show _ = A / 10000 % 18446744073709551616
      generalize hi A = h at *
      generalize lo A = l at *
      omega
    have e2 : (hi A % 10000 * 18446744073709551616 + lo A) % 10000 = A % 10000 := by
      generalize hi A = h at *
      generalize lo A = l at *
      omega
    rw [e1, e2]
  · have e : hi A / 10000 = hi (A / 10000) := by
      unfold hi; omega
    rw [IntKind.wrap_u64, ← e]
    generalize hi A = h at *
    unfold wrap64; omega
theorem mulj0_f (j : Nat) (e : Int) (k0 n0 : Int) (s0 : ByteArray) (k1 n1 : Int) (s1 : ByteArray) (h0 : I64 n0) (h1 : I64 n1) :
    value_Mul.j0 (j + 3) e false k0 n0 s0 k1 n1 s1 = some (if k0 ≠ k1 then toldR 3 (n0 * n1) else if k0 = 2 then toldR 2 (n0 * n1) else toldR 3 (if n0 * n1 < 0 then -rnd (absI (n0 * n1)) else rnd (absI (n0 * n1)))) := by
  have hp := abs_prod n0 n1 h0 h1
  have i1 : I128 (n0 * n1) ∧ I128 (-(n0 * n1)) := by
    unfold absI at hp
    constructor <;> (unfold I128; split at hp <;> omega)
  rw [value_Mul.j0]
  simp only [Bool.false_eq_true, if_false]
  rw [times_f n0 n1 h0 h1]
  simp only [Option.bind_some]
  by_cases hk : k0 = k1
  · rw [if_pos hk]
    simp only [ne_eq, hk, not_true, if_false]
    rw [← hk]
    by_cases h2 : k0 = 2
    · rw [if_pos h2, if_pos h2, told_fR _ _ i1.1]; rfl
    · rw [if_neg h2, if_neg h2, size_f _ i1.1 i1.2]
      simp only [Option.bind_some]
      change (bits_Div64.f (Int.tmod (hi (absI (n0 * n1))) 10000) (lo (absI (n0 * n1))) 10000).bind _ = _
      have hd := div_f _ hp.1 hp.2
      change (bits_Div64.f (Int.tmod (hi (absI (n0 * n1))) 10000) (lo (absI (n0 * n1))) 10000).bind (fun bt200 => if bt200.2 > 5000 then value_Mul.j1 (j + 2) (decide (n0 * n1 < 0)) true (wrap64 (IntKind.u64.wrap (Int.tdiv (hi (absI (n0 * n1))) 10000))) bt200.1 else if bt200.2 = 5000 then value_Mul.j1 (j + 2) (decide (n0 * n1 < 0)) ((Int.tmod bt200.1 2) == 1) (wrap64 (IntKind.u64.wrap (Int.tdiv (hi (absI (n0 * n1))) 10000))) bt200.1 else value_Mul.j1 (j + 2) (decide (n0 * n1 < 0)) false (wrap64 (IntKind.u64.wrap (Int.tdiv (hi (absI (n0 * n1))) 10000))) bt200.1) = _
      rw [hd.1, hd.2]
      simp only [Option.bind_some]
      generalize n0 * n1 = p at *
      generalize absI p = A at *
      have q0 : 0 ≤ A / 10000 := by omega
      have q1 : A / 10000 ≤ 85070591730234615865843651857942052864 := by omega
      have hlo : Int.tmod (lo (A / 10000)) 2 = A / 10000 % 2 := by
        rw [Int.tmod_eq_emod_of_nonneg (lo_word _).1]; unfold lo; omega
      rw [j1m_f j _ _ _ q0 q1, j1m_f j _ _ _ q0 q1, j1m_f j _ _ _ q0 q1, hlo]
      simp only [decide_eq_true_eq, if_true, Bool.false_eq_true, if_false, beq_iff_eq]
      unfold rnd
      by_cases c1 : A % 10000 > 5000
      · simp only [c1, if_true, true_or]
      · by_cases c2 : A % 10000 = 5000
        · by_cases c3 : A / 10000 % 2 = 1
          · simp only [c2, c3, if_true, true_and, or_true, ite_self]
          · simp only [c2, c3, if_true, if_false, true_and, or_false]
            rfl
        · simp only [c1, c2, if_false, false_and, or_self]
  · rw [if_neg hk, told_fR _ _ i1.1]
    simp only [ne_eq, hk, not_false_eq_true, if_true]; rfl
theorem mul_f (j : Nat) (k0 n0 : Int) (s0 : ByteArray) (k1 n1 : Int) (s1 : ByteArray) (h0 : I64 n0) (h1 : I64 n1) :
    value_Mul.f (j + 3) k0 n0 s0 k1 n1 s1 = some (mulR k0 n0 s0 k1 n1 s1) := by
  unfold value_Mul.f mulR value_asked.f
  simp only [Option.bind_some]
  have hj : ∀ e, value_Mul.j0 (j + 3) e true k0 n0 s0 k1 n1 s1 = some (0, 0, ⟨#[]⟩, e) := fun e => by rw [value_Mul.j0]; rfl
  by_cases he : (askedR k0 n0 s0 k1 n1 s1).2 = 0
  · rw [if_pos he]
    cases hb : (askedR k0 n0 s0 k1 n1 s1).1
    · rw [mulj0_f j _ k0 n0 s0 k1 n1 s1 h0 h1]
      simp only [he, ne_eq, not_true, Bool.false_eq_true, or_self, if_false]
    · rw [hj]
      simp only [or_true, if_true]
  · rw [if_neg he, hj, if_pos (Or.inl he)]
end Go.Proofs.YtbodlnoipkommaaDoor.Pc
-- By a program of this session (wip/printx.py) out of the translation. Not trusted: Lean checks it.
namespace Go.Proofs.YtbodlnoipkommaaDoor.Q
open Go.RowKit Go.Proofs.YtbodlnoipkommaaDoorW.PrintWords Go.Proofs.YtbodlnoipkommaaDoorW.PrintLast Go.Proofs.YtbodlnoipkommaaDoorW.PrintMore
attribute [local go_sem] max2_int min2_int max_two min_two max_three min_three max_four min_four   -- for this text's walks alone
set_option linter.unusedVariables false
set_option linter.unusedSimpArgs false

/-! ### chancerylaw17_num: function 49 -/
def chancerylaw17_num.f (a0 : Int) : Option (Int × Int × ByteArray) := some (2, a0, (⟨#[]⟩ : ByteArray))
set_option maxHeartbeats 8000000 in
set_option maxRecDepth 100000 in
theorem chancerylaw17_num.calls (a0 : Int) (r1 : Int) (r2 : Int) (r3 : ByteArray) (w : World) (h : chancerylaw17_num.f a0 = some (r1, r2, r3)) :
    Calls Tryd.prog 49 #[.int .i64 a0] w fun e w' => e = .returned (.agg #[.int .u8 r1, .int .i64 r2, .string r3]) ∧ Below w.heap.size w w' := by
  have hu25 := Tryd.underlying25
  have HB := Aside0.mk (Below.refl w.heap.size w)
  have H : (some (2, a0, (⟨#[]⟩ : ByteArray))) = some (r1, r2, r3) := h
  clear h
  simp only [Option.some.injEq, Prod.mk.injEq] at H
  obtain ⟨rfl, rfl, rfl⟩ := H
  go_enter Tryd.func49, Tryd.ntmps49
  go_wp2_with (first | ((with_reducible refine gate_dst (N := 2) rfl ?_); refine box_event ?hg (N := 2) ?hd (cs := #[.int .u8 0, .int .i64 0, .string (⟨#[]⟩ : ByteArray)]) (t := 25) ?hr ?_; (case hd => rfl); (case hg => rfl); (case hr => first | (go_simp; done) | (go_simp; rfl)); intro gb200 hg w2 hbox hb; have n0_ := Aside0.mk (below_step (by repeat (first | (with_reducible first | exact HB.out | apply below_alloc | apply pw_below_drewN | apply below_drew1) | exact HB.out)) hb); have n1_ := Aside0.mk (hbox); have n2_ := Aside0.mk ((by rw [hg]; exact (below_size (by repeat (first | (with_reducible first | exact HB.out | apply below_alloc | apply pw_below_drewN | apply below_drew1) | exact HB.out))) : w.heap.size ≤ gb200)); have n3_ := Aside0.mk ((by rw [hg]; exact (below_size (by repeat (first | (with_reducible first | exact HB.out | apply below_alloc | apply pw_below_drewN | apply below_drew1) | exact HB.out))) : w.heap.size ≤ gb200)); clear HB; have HB := n0_; have BK200 := n1_; have GW200 := n2_; have GE200 := n3_; clear n0_ n1_ n2_ n3_; clear hb hbox hg; have hcz3_0 : w2.cell? ⟨gb200, 0, none⟩ = some (.int .u8 0) := (blk_cell BK200.out 0).trans rfl; have hcz3_1 : w2.cell? ⟨gb200, 1, none⟩ = some (.int .i64 0) := (blk_cell BK200.out 1).trans rfl; have hcz3_2 : w2.cell? ⟨gb200, 2, none⟩ = some (.string (⟨#[]⟩ : ByteArray)) := (blk_cell BK200.out 2).trans rfl; have hfz3_0 := blk_frozen BK200.out 0; have hfz3_1 := blk_frozen BK200.out 1; have hfz3_2 := blk_frozen BK200.out 2))
  refine bodyPost_ret (results_cell_row rfl _ _ gb200 25 #[.int .u8 2, .int .i64 a0, .string (⟨#[]⟩ : ByteArray)] (0, 0) _ rfl (by (with_reducible repeat (first | refine blk_drewN ?_ _ | refine blk_drew ?_ | refine blk_alloc ?_ _)); refine blk_put (cs := #[.int .u8 2, .int .i64 a0, .string (⟨#[]⟩ : ByteArray)]) ?_ 2 _ rfl; (with_reducible repeat (first | refine blk_drewN ?_ _ | refine blk_drew ?_ | refine blk_alloc ?_ _)); refine blk_put (cs := #[.int .u8 2, .int .i64 0, .string (⟨#[]⟩ : ByteArray)]) ?_ 1 _ rfl; (with_reducible repeat (first | refine blk_drewN ?_ _ | refine blk_drew ?_ | refine blk_alloc ?_ _)); refine blk_put (cs := #[.int .u8 0, .int .i64 0, .string (⟨#[]⟩ : ByteArray)]) ?_ 0 _ rfl; (with_reducible repeat (first | refine blk_drewN ?_ _ | refine blk_drew ?_ | refine blk_alloc ?_ _)); exact BK200.out) Tryd.underlying25 rfl (by kernel_rfl)) rfl ?_
  exact ⟨by first | rfl | (simp [errW_none, errW_some] <;> rfl) | (simp [*, errW_none, errW_some] <;> rfl), by repeat (first | (with_reducible first | exact HB.out | apply below_alloc | apply pw_below_drewN | apply below_drew1 | refine below_set ?_ GE200.out) | exact HB.out)⟩

end Go.Proofs.YtbodlnoipkommaaDoor.Q
-- By a program of this session (wip/printx.py) out of the translation. Not trusted: Lean checks it.
namespace Go.Proofs.YtbodlnoipkommaaDoor.Q
open Go.RowKit Go.Proofs.YtbodlnoipkommaaDoorW.PrintWords Go.Proofs.YtbodlnoipkommaaDoorW.PrintLast Go.Proofs.YtbodlnoipkommaaDoorW.PrintMore
attribute [local go_sem] max2_int min2_int max_two min_two max_three min_three max_four min_four   -- for this text's walks alone
set_option linter.unusedVariables false
set_option linter.unusedSimpArgs false

/-! ### chancerylaw17_dec: function 50 -/
def chancerylaw17_dec.f (a0 : Int) : Option (Int × Int × ByteArray) := some (3, a0, (⟨#[]⟩ : ByteArray))
set_option maxHeartbeats 8000000 in
set_option maxRecDepth 100000 in
theorem chancerylaw17_dec.calls (a0 : Int) (r1 : Int) (r2 : Int) (r3 : ByteArray) (w : World) (h : chancerylaw17_dec.f a0 = some (r1, r2, r3)) :
    Calls Tryd.prog 50 #[.int .i64 a0] w fun e w' => e = .returned (.agg #[.int .u8 r1, .int .i64 r2, .string r3]) ∧ Below w.heap.size w w' := by
  have hu25 := Tryd.underlying25
  have HB := Aside0.mk (Below.refl w.heap.size w)
  have H : (some (3, a0, (⟨#[]⟩ : ByteArray))) = some (r1, r2, r3) := h
  clear h
  simp only [Option.some.injEq, Prod.mk.injEq] at H
  obtain ⟨rfl, rfl, rfl⟩ := H
  go_enter Tryd.func50, Tryd.ntmps50
  go_wp2_with (first | ((with_reducible refine gate_dst (N := 2) rfl ?_); refine box_event ?hg (N := 2) ?hd (cs := #[.int .u8 0, .int .i64 0, .string (⟨#[]⟩ : ByteArray)]) (t := 25) ?hr ?_; (case hd => rfl); (case hg => rfl); (case hr => first | (go_simp; done) | (go_simp; rfl)); intro gb201 hg w2 hbox hb; have n0_ := Aside0.mk (below_step (by repeat (first | (with_reducible first | exact HB.out | apply below_alloc | apply pw_below_drewN | apply below_drew1) | exact HB.out)) hb); have n1_ := Aside0.mk (hbox); have n2_ := Aside0.mk ((by rw [hg]; exact (below_size (by repeat (first | (with_reducible first | exact HB.out | apply below_alloc | apply pw_below_drewN | apply below_drew1) | exact HB.out))) : w.heap.size ≤ gb201)); have n3_ := Aside0.mk ((by rw [hg]; exact (below_size (by repeat (first | (with_reducible first | exact HB.out | apply below_alloc | apply pw_below_drewN | apply below_drew1) | exact HB.out))) : w.heap.size ≤ gb201)); clear HB; have HB := n0_; have BK201 := n1_; have GW201 := n2_; have GE201 := n3_; clear n0_ n1_ n2_ n3_; clear hb hbox hg; have hcz3_0 : w2.cell? ⟨gb201, 0, none⟩ = some (.int .u8 0) := (blk_cell BK201.out 0).trans rfl; have hcz3_1 : w2.cell? ⟨gb201, 1, none⟩ = some (.int .i64 0) := (blk_cell BK201.out 1).trans rfl; have hcz3_2 : w2.cell? ⟨gb201, 2, none⟩ = some (.string (⟨#[]⟩ : ByteArray)) := (blk_cell BK201.out 2).trans rfl; have hfz3_0 := blk_frozen BK201.out 0; have hfz3_1 := blk_frozen BK201.out 1; have hfz3_2 := blk_frozen BK201.out 2))
  refine bodyPost_ret (results_cell_row rfl _ _ gb201 25 #[.int .u8 3, .int .i64 a0, .string (⟨#[]⟩ : ByteArray)] (0, 0) _ rfl (by (with_reducible repeat (first | refine blk_drewN ?_ _ | refine blk_drew ?_ | refine blk_alloc ?_ _)); refine blk_put (cs := #[.int .u8 3, .int .i64 a0, .string (⟨#[]⟩ : ByteArray)]) ?_ 2 _ rfl; (with_reducible repeat (first | refine blk_drewN ?_ _ | refine blk_drew ?_ | refine blk_alloc ?_ _)); refine blk_put (cs := #[.int .u8 3, .int .i64 0, .string (⟨#[]⟩ : ByteArray)]) ?_ 1 _ rfl; (with_reducible repeat (first | refine blk_drewN ?_ _ | refine blk_drew ?_ | refine blk_alloc ?_ _)); refine blk_put (cs := #[.int .u8 0, .int .i64 0, .string (⟨#[]⟩ : ByteArray)]) ?_ 0 _ rfl; (with_reducible repeat (first | refine blk_drewN ?_ _ | refine blk_drew ?_ | refine blk_alloc ?_ _)); exact BK201.out) Tryd.underlying25 rfl (by kernel_rfl)) rfl ?_
  exact ⟨by first | rfl | (simp [errW_none, errW_some] <;> rfl) | (simp [*, errW_none, errW_some] <;> rfl), by repeat (first | (with_reducible first | exact HB.out | apply below_alloc | apply pw_below_drewN | apply below_drew1 | refine below_set ?_ GE201.out) | exact HB.out)⟩

end Go.Proofs.YtbodlnoipkommaaDoor.Q
/- The chapter's examples in plain Lean. -/
namespace Go.Proofs.YtbodlnoipkommaaDoor.Pe
open Go.RowKit Go.Proofs.YtbodlnoipkommaaDoor.Q Go.Proofs.YtbodlnoipkommaaDoor.We Go.Proofs.YtbodlnoipkommaaDoor.Wf Go.Proofs.YtbodlnoipkommaaDoor.Wg Go.Proofs.YtbodlnoipkommaaDoor.Wh Go.Proofs.YtbodlnoipkommaaDoor.Wj Go.Proofs.YtbodlnoipkommaaDoor.Wk Go.Proofs.YtbodlnoipkommaaDoor.Wl Go.Proofs.YtbodlnoipkommaaDoor.Wo Go.Proofs.YtbodlnoipkommaaDoor.Wp Go.Proofs.YtbodlnoipkommaaDoor.Wq Go.Proofs.YtbodlnoipkommaaDoor.Ws Go.Proofs.YtbodlnoipkommaaDoor.Wt Go.Proofs.YtbodlnoipkommaaDoor.Pa Go.Proofs.YtbodlnoipkommaaDoor.Pb Go.Proofs.YtbodlnoipkommaaDoor.Pc Go.Proofs.YtbodlnoipkommaaDoor.Xd Go.Proofs.YtbodlnoipkommaaDoorW.PrintWords Go.Proofs.YtbodlnoipkommaaDoorW.PrintLast Go.Proofs.YtbodlnoipkommaaDoorW.PrintMore
theorem toList_empty : (⟨#[]⟩ : ByteArray).toList = [] := by
  rw [ByteArray.toList_eq]
theorem right_num (n : Int) : rightB 2 n ⟨#[]⟩ = true ∧ rightB 3 n ⟨#[]⟩ = true := by
  unfold rightB
  rw [toList_empty]
  exact ⟨rfl, rfl⟩
theorem asked_num (k0 n0 k1 n1 : Int) (h0 : k0 = 2 ∨ k0 = 3) (h1 : k1 = 2 ∨ k1 = 3) : askedR k0 n0 ⟨#[]⟩ k1 n1 ⟨#[]⟩ = (false, 0) := by
  unfold askedR
  rcases h0 with rfl | rfl <;> rcases h1 with rfl | rfl <;> simp only [right_num] <;> rfl
theorem num_f (n : Int) : chancerylaw17_num.f n = some (2, n, ⟨#[]⟩) := rfl
theorem dec_f (n : Int) : chancerylaw17_dec.f n = some (3, n, ⟨#[]⟩) := rfl
theorem dec_one (i : Nat) (h : i < 10) : dec i = ⟨#[UInt8.ofNat (48 + i)]⟩ := by unfold dec; rw [Lib.decDigits_one h]
theorem print_half : value_Print.f 3 (-5000) ⟨#[]⟩ = some ⟨#[45, 48, 46, 53, 48, 48, 48]⟩ := by
  unfold value_Print.f
  rw [if_pos (by decide)]
  have hr : rightB 3 (-5000) ⟨#[]⟩ = true := (right_num _).2
  unfold printR
  rw [hr]
  simp only [show ¬ ((3 : Int) = 0) by decide, show ¬ ((3 : Int) = 1) by decide, show ¬ ((3 : Int) = 2) by decide, if_false, if_true, Bool.true_eq_false]
  have e : Lib.decDigits 15000 = [49, 53, 48, 48, 48] := by
    rw [Lib.decDigits, dif_neg (by decide), Lib.decDigits, dif_neg (by decide), Lib.decDigits, dif_neg (by decide), Lib.decDigits, dif_neg (by decide), Lib.decDigits_one (by decide)]
    rfl
  have e0 : Lib.decDigits 0 = [48] := Lib.decDigits_one (by decide)
  unfold decimalS fourS
  rw [if_pos (by decide)]
  show some (dash ++ (dec 0 ++ dot ++ (dec 15000).extract 1 (dec 15000).size)) = _
  unfold dec
  rw [e, e0]
  rfl
theorem cmp_ex : value_Compare.f 9 2 1 ⟨#[]⟩ 3 15000 ⟨#[]⟩ = some (1, 0) := by
  unfold value_Compare.f compareR; rw [if_pos (by decide)]; rw [(right_num 1).1, (right_num 15000).2]; decide
theorem add_ex : value_Add.f 2 9223372036854775807 ⟨#[]⟩ 2 1 ⟨#[]⟩ = some (0, 0, ⟨#[]⟩, 271) := by
  rw [add_f 2 9223372036854775807 ⟨#[]⟩ 2 1 ⟨#[]⟩ (by decide) (by decide)]
  unfold addR; rw [asked_num _ _ _ _ (by decide) (by decide)]; rfl
theorem mul_ex1 : value_Mul.f 3 3 1 ⟨#[]⟩ 3 5000 ⟨#[]⟩ = some (3, 0, ⟨#[]⟩, 0) := by
  rw [mul_f 0 3 1 ⟨#[]⟩ 3 5000 ⟨#[]⟩ (by decide) (by decide)]
  unfold mulR; rw [asked_num _ _ _ _ (by decide) (by decide)]; rfl
theorem mul_ex2 : value_Mul.f 3 3 3 ⟨#[]⟩ 3 5000 ⟨#[]⟩ = some (3, 2, ⟨#[]⟩, 0) := by
  rw [mul_f 0 3 3 ⟨#[]⟩ 3 5000 ⟨#[]⟩ (by decide) (by decide)]
  unfold mulR; rw [asked_num _ _ _ _ (by decide) (by decide)]; rfl
theorem right_ex : value_Right.f 1 2 7 ⟨#[]⟩ = some true := by rw [right_f, (right_num 7).1]
end Go.Proofs.YtbodlnoipkommaaDoor.Pe
/- The statements' examples (awake): the walk. It needs a contract of Compare. -/
namespace Go.Proofs.YtbodlnoipkommaaDoor.Xa
open Go.RowKit Go.Proofs.YtbodlnoipkommaaDoor.Q Go.Proofs.YtbodlnoipkommaaDoor.Wf Go.Proofs.YtbodlnoipkommaaDoor.Wg Go.Proofs.YtbodlnoipkommaaDoor.Wh Go.Proofs.YtbodlnoipkommaaDoor.Wi Go.Proofs.YtbodlnoipkommaaDoor.Wm Go.Proofs.YtbodlnoipkommaaDoor.Wn Go.Proofs.YtbodlnoipkommaaDoor.Wo Go.Proofs.YtbodlnoipkommaaDoor.Wp Go.Proofs.YtbodlnoipkommaaDoor.Wt Go.Proofs.YtbodlnoipkommaaDoor.Xd Go.Proofs.YtbodlnoipkommaaDoor.Pb Go.Proofs.YtbodlnoipkommaaDoor.Pe Go.Proofs.YtbodlnoipkommaaDoorW.PrintWords Go.Proofs.YtbodlnoipkommaaDoorW.PrintLast Go.Proofs.YtbodlnoipkommaaDoorW.PrintMore
abbrev vv (k n : Int) : Value := .agg #[.int .u8 k, .int .i64 n, .string ⟨#[]⟩]
theorem num_c (n : Int) (w : World) : Calls Tryd.prog 49 #[.int .i64 n] w fun e w' => e = .returned (vv 2 n) ∧ Below w.heap.size w w' := chancerylaw17_num.calls n _ _ _ w rfl
theorem dec_c (n : Int) (w : World) : Calls Tryd.prog 50 #[.int .i64 n] w fun e w' => e = .returned (vv 3 n) ∧ Below w.heap.size w w' := chancerylaw17_dec.calls n _ _ _ w rfl
def Rules (A B : Nat) (w : World) : Prop := ∀ W, Below w.heap.size w W → (W.cell? ⟨A, 0, none⟩ = some (.int .u8 3) ∧ W.cell? ⟨A, 1, none⟩ = some (.int .i64 0) ∧ W.cell? ⟨A, 2, none⟩ = some (.string ⟨#[]⟩)) ∧ W.cell? ⟨B, 0, none⟩ = some (.int .u8 3) ∧ W.cell? ⟨B, 1, none⟩ = some (.int .i64 2) ∧ W.cell? ⟨B, 2, none⟩ = some (.string ⟨#[]⟩)
set_option maxRecDepth 100000 in
set_option maxHeartbeats 4000000 in
theorem awake_calls (w : World) (hg : VOK w) : Calls Tryd.prog 15 #[] w fun e w' => e = .returned (.bool true) ∧ Below w.heap.size w w' := by
  have C := Aside0.mk (fun W => value_Compare.calls 9 2 1 ⟨#[]⟩ 3 15000 ⟨#[]⟩ _ _ W cmp_ex)
  have A := Aside0.mk (fun W => value_Add.calls 2 9223372036854775807 ⟨#[]⟩ 2 1 ⟨#[]⟩ _ _ _ _ W add_ex)
  have M1 := Aside0.mk (fun W => value_Mul.calls 3 3 1 ⟨#[]⟩ 3 5000 ⟨#[]⟩ _ _ _ _ W mul_ex1)
  have M2 := Aside0.mk (fun W => value_Mul.calls 3 3 3 ⟨#[]⟩ 3 5000 ⟨#[]⟩ _ _ _ _ W mul_ex2)
  have Pr := Aside0.mk (fun W => value_Print.calls 3 (-5000) ⟨#[]⟩ _ W print_half)
  have R := Aside0.mk (fun W => value_Right.calls 1 2 7 ⟨#[]⟩ true W right_ex)
  have An := Aside0.mk (fun W => value_And.calls 2 0 0 W rfl)
  have G := Aside0.mk hg
  have q1 : ∀ W, (binOp .eql 25 (vv 3 0) (vv 3 0)).run Tryd.prog W = .ok (.bool true) W := fun W => by kernel_rfl
  have q2 : ∀ W, (binOp .eql 25 (vv 3 2) (vv 3 2)).run Tryd.prog W = .ok (.bool true) W := fun W => by kernel_rfl
  clear hg
  go_enter Tryd.func15, Tryd.ntmps15
  go_wp2_with fail
  refine (num_c _ _).mono ?_; rintro e w1 ⟨rfl, h1⟩; replace h1 := Aside0.mk h1; go_wp2_with fail
  refine (dec_c _ _).mono ?_; rintro e w2 ⟨rfl, h2⟩; replace h2 := Aside0.mk h2; go_wp2_with fail
  refine (C.out _).mono ?_; rintro e w3 ⟨rfl, h3⟩; replace h3 := Aside0.mk h3; go_wp2_with fail
  refine (num_c _ _).mono ?_; rintro e w4 ⟨rfl, h4⟩; replace h4 := Aside0.mk h4; go_wp2_with fail
  refine (num_c _ _).mono ?_; rintro e w5 ⟨rfl, h5⟩; replace h5 := Aside0.mk h5; go_wp2_with fail
  refine (A.out _).mono ?_; rintro e w6 ⟨rfl, h6⟩; replace h6 := Aside0.mk h6; go_wp2_with fail
  refine (dec_c _ _).mono ?_; rintro e w7 ⟨rfl, h7⟩; replace h7 := Aside0.mk h7; go_wp2_with fail
  refine (dec_c _ _).mono ?_; rintro e w8 ⟨rfl, h8⟩; replace h8 := Aside0.mk h8; go_wp2_with fail
  refine (M1.out _).mono ?_; rintro e w9 ⟨rfl, h9⟩; replace h9 := Aside0.mk h9; go_wp2_with fail
  refine (dec_c _ _).mono ?_; rintro e w10 ⟨rfl, h10⟩
  obtain ⟨c10, f10, l10⟩ := bcells h10 w9.heap.size (by simp)
  replace h10 := Aside0.mk h10; go_wp2_with fail
  refine (dec_c _ _).mono ?_; rintro e w11 ⟨rfl, h11⟩
  obtain ⟨c11, f11, l11⟩ := bcells h11 w9.heap.size l10
  replace h11 := Aside0.mk h11; go_wp2_with fail
  refine (M2.out _).mono ?_; rintro e w12 ⟨rfl, h12⟩
  obtain ⟨c12, f12, l12⟩ := bcells h12 w9.heap.size l11
  replace h12 := Aside0.mk h12; go_wp2_with fail
  have Bw : Below w.heap.size w w12 := below_step (below_step (below_step (below_alloc (below_step (below_step (below_step (below_alloc (below_step (below_step (below_step (below_step (below_step (below_step (Below.refl _ _) h1.out) h2.out) h3.out) h4.out) h5.out) h6.out) _) h7.out) h8.out) h9.out) _) h10.out) h11.out) h12.out
  have G2 := Aside0.mk (VOK.below (VOK.below G.out Bw) (below_alloc (Below.refl _ _) (.cells #[.int .u8 3, .int .i64 2, .string ⟨#[]⟩] 25)))
  replace Bw := Aside0.mk Bw
  clear h1 h2 h3 h4 h5 h6 h7 h8 h9 h10 h11 h12
  obtain ⟨wz, hwz⟩ : ∃ wz, wz = w12.alloc (.cells #[.int .u8 3, .int .i64 2, .string ⟨#[]⟩] 25) := ⟨_, rfl⟩
  have ra0 : ∀ W, Below wz.heap.size wz W → W.cell? ⟨w9.heap.size, 0, none⟩ = some (.int .u8 3) := fun W h => pw_cell_below h (by subst hwz; go_simp)
  have ra1 : ∀ W, Below wz.heap.size wz W → W.cell? ⟨w9.heap.size, 1, none⟩ = some (.int .i64 0) := fun W h => pw_cell_below h (by subst hwz; go_simp)
  have ra2 : ∀ W, Below wz.heap.size wz W → W.cell? ⟨w9.heap.size, 2, none⟩ = some (.string ⟨#[]⟩) := fun W h => pw_cell_below h (by subst hwz; go_simp)
  have rb0 : ∀ W, Below wz.heap.size wz W → W.cell? ⟨w12.heap.size, 0, none⟩ = some (.int .u8 3) := fun W h => pw_cell_below h (by subst hwz; go_simp)
  have rb1 : ∀ W, Below wz.heap.size wz W → W.cell? ⟨w12.heap.size, 1, none⟩ = some (.int .i64 2) := fun W h => pw_cell_below h (by subst hwz; go_simp)
  have rb2 : ∀ W, Below wz.heap.size wz W → W.cell? ⟨w12.heap.size, 2, none⟩ = some (.string ⟨#[]⟩) := fun W h => pw_cell_below h (by subst hwz; go_simp)
  have Bz : Below w.heap.size w wz := by rw [hwz]; exact below_alloc Bw.out _
  replace Bz := Aside0.mk Bz
  rw [← hwz] at G2
  rw [← hwz]
  clear c10 c11 c12 f10 f11 f12 l10 l11 l12 hwz Bw
  have St0 := Aside0.mk (show Below wz.heap.size wz wz.drew from below_drew1 (Below.refl _ _))
  go_region_held3 (fun W => Below wz.heap.size wz W)
    (first | (with_reducible exact St0.out) | (with_reducible exact below_step (by assumption) hb) | (with_reducible exact pw_below_drewN (by assumption) _))
    (first | (((with_reducible refine (dec_c _ _).mono ?_); rintro e w' ⟨rfl, hb⟩)) | (((with_reducible refine (num_c _ _).mono ?_); rintro e w' ⟨rfl, hb⟩)) | (((with_reducible refine (An.out _ (VOK.below G2.out (by assumption))).mono ?_); rintro e w' ⟨rfl, ⟨nn, rfl⟩⟩)) | (((with_reducible refine (Pr.out _ (VOK.below G2.out (by assumption))).mono ?_); rintro e w' ⟨rfl, hb⟩)) | (((with_reducible refine (R.out _).mono ?_); rintro e w' ⟨rfl, hb⟩)))
  go_wp2
  go_ret
  exact ⟨rfl, below_step Bz.out (by first | assumption | exact below_step (by assumption) hb)⟩
def chancerylaw17_awake.f : Option Bool := some true
theorem chancerylaw17_awake.calls (r : Bool) (w : World) (h : chancerylaw17_awake.f = some r) (hg : VOK w) : Calls Tryd.prog 15 #[] w fun e w' => e = .returned (.bool r) ∧ Below w.heap.size w w' := by
  injection h with h
  subst h
  exact awake_calls w hg
end Go.Proofs.YtbodlnoipkommaaDoor.Xa
/- Rows over value's types: the condition on the world out of the row's list; a value opened and shut. -/
namespace Go.Proofs.YtbodlnoipkommaaDoor.Ry
open Go.ChangeShapes Go.WideShapes Go.ChangeAt Go.RowKit Go.Joins Go.Proofs.YtbodlnoipkommaaDoor.Wf
open Go.ChangeMaps (open_string shut_string)
theorem own : ownKnob Tryd.prog.godebug = none := by kernel_rfl
abbrev laidL : List (String × DataW Unit) := Rows.valueLogicRow.laid
set_option maxRecDepth 100000 in
theorem vok {W : World} (hL : laidMetH Tryd.prog laidL W) (hsh : W.ShapedOpen Tryd.prog) : VOK W := by
  rw [MakeChecks.laidMetH_plain _ _ _ (by kernel_rfl)] at hL
  have tr : Lib.TabIs Tryd.prog W "chancery/value.truths" .u8 [0, 2, 1] := by
    obtain ⟨g, t, cs, fuel, p, hg, ht, hv, hd⟩ := Lib.laidMet.reads hL (n := "chancery/value.truths") (d := Rows.laid_chancery_value_truths) (by simp [laidL, Rows.valueLogicRow])
    obtain rfl := Option.some.inj (hg.symm.trans (show Tryd.prog.globalNamed "chancery/value.truths" = some 0 by kernel_rfl))
    obtain rfl := Option.some.inj (ht.symm.trans (show (Tryd.prog.globals[0]?).map (·.type) = some 70 by kernel_rfl))
    unfold Lib.TabIs
    rw [hv, ← Lib.cells_of_tab (k := .u8) (zs := [0, 2, 1]) Tryd.underlying70 Tryd.underlying5 (by kernel_rfl) (by kernel_rfl) hd]
  have pw : Lib.TabIs Tryd.prog W "internal/strconv.uint64pow10" .u64 Lib.pow10Tab := by
    obtain ⟨g, t, cs, fuel, p, hg, ht, hv, hd⟩ := Lib.laidMet.reads hL (n := "internal/strconv.uint64pow10") (d := Rows.laid_internal_strconv_uint64pow10) (by simp [laidL, Rows.valueLogicRow])
    have hty : Tryd.prog.globals[g]?.map (·.type) = some 115 := by
      obtain rfl := Option.some.inj (hg.symm.trans (show Tryd.prog.globalNamed "internal/strconv.uint64pow10" = some 4 by kernel_rfl))
      kernel_rfl
    obtain rfl := Option.some.inj (ht.symm.trans hty)
    unfold Lib.TabIs
    rw [hv, ← Lib.cells_of_tab (k := .u64) (zs := Lib.pow10Tab) Tryd.underlying115 Tryd.underlying47 (by kernel_rfl) (by kernel_rfl) hd]
  have hz : Tryd.prog.globalNamed "chancery/value.truths" = some 0 := by kernel_rfl
  exact ⟨tr.cell hz 0 (by decide), tr.cell hz 1 (by decide), tr.cell hz 2 (by decide), Go.Proofs.cell_of_shapedOpen_int (zero := #[.int .i64 0]) (t := 3) hsh (of_decide_eq_true (by kernel_rfl)) (by kernel_rfl) rfl (by kernel_rfl) (by kernel_rfl) Tryd.underlying3, pw⟩
/-- The wrap for a row that lists variables: the contract is handed the list's reading and the world's shape. -/
theorem wrap {os : Os} {H : Type} {enc : TypeId × Value → H} {f : FuncId} {fn : Func} {s : ChangeSpec} {conds : List PathCond} {laid : List (String × DataW Unit)} {C : Checked} (own : ownKnob C.prog.godebug = none) (started : os.Started) (noInit : C.prog.inits.idxOf? f = none) (hfn : C.prog.funcs[f]? = some fn)
    (witness : ∃ (w : World) (tape : Tape) (i : Input), w.os = os ∧ (w.forCall tape i).Shaped C.prog ∧ i.vars = [] ∧ Input.okWide C.prog (w.forCall tape i) .any w.heap.size f i ∧
      ((s.pre enc C.prog fn conds false (w.forCall tape i).memory i.args ∧ laidMetH C.prog laid (w.forCall tape i).memory) ∧ sizedMet enc C.prog fn (OpenSpec.ofChange s) false (w.forCall tape i).memory i.args) ∧ ({} : Assume).holds C.prog (lone (Frame.enter C.prog f i.args .normal) [] (w.forCall tape i)))
    (contract : ∀ (W : World) (base : Nat) (args : Array Value) (ds gs : List (DataW H)) (before : List MemPlace),
      (∀ (j : Nat) t v, fn.params[j]? = some t → args[j]? = some v → Value.okWide C.prog W .any base t v) →
      DataW.Whole enc C.prog fn.params.toList s.vars false W args.toList ds gs before →
      (DataW.weightsEach C.prog (fn.params.toList ++ s.plain.varTypes C.prog) (ds ++ gs)).all (· ≤ reachBytes) = true →
      laidMetH C.prog laid W → W.ShapedOpen C.prog →
      Calls C.prog f args W fun e W' => ∃ v, e = .returned v ∧ s.post enc C.prog fn false true false false W args v W') :
    ReturnsInHanded {} C os f .any (fun w args => (s.pre enc C.prog fn conds false w args ∧ laidMetH C.prog laid w) ∧ sizedMet enc C.prog fn (OpenSpec.ofChange s) false w args) (s.post enc C.prog fn false true false false) := by
  refine returnsInHanded_of_calls own started noInit witness ?_
  intro w tape i _ hsh _ hok hpre hholds
  obtain ⟨_, _, _, fn', hfn', _, _, _, _, hval⟩ := hok
  have e : fn' = fn := Option.some.inj (hfn'.symm.trans hfn)
  subst e
  obtain ⟨⟨⟨ds, gs, before, hw, hc⟩, hL⟩, hz⟩ := hpre
  have hw' := DataW.Whole.of_heap (w' := w.forCall tape i) (by rfl) hw
  have hL' : laidMetH C.prog laid (w.forCall tape i) := laidMetH.of_heap (by rfl) hL
  refine (contract (w.forCall tape i) w.heap.size i.args ds gs before hval hw' (hz.weights hw) hL' hsh).mono fun e W' ⟨v, he, hp⟩ => ?_
  subst he
  exact ChangeSpec.post_blind hp
set_option maxRecDepth 100000 in
theorem open_val {H : Type} {enc : TypeId × Value → H} {W : World} {r : Reach} {b0 base : Nat} {sp : Nat → Bool} {held : Bool} {v : Value} {d : DataW H} {p : List MemPlace} (hv : Value.okWide Tryd.prog W r b0 25 v) (h : DataW.Trod enc Tryd.prog W base sp held 25 v d p) :
    ∃ (k n : Int) (s : ByteArray), v = .agg #[.int .u8 k, .int .i64 n, .string s] ∧ d = .agg [.lit (.int .u8 k), .lit (.int .i64 n), .lit (.string s.data.toList)] ∧ p = [] ∧ (Lit.int .u8 k).wf = true ∧ (Lit.int .i64 n).wf = true ∧ s.size ≤ maxLen := by
  obtain ⟨v0, v1, v2, y0, y1, y2, n, rfl, rfl, rfl, h0, h1, h2⟩ := open_agg3 Tryd.underlying25 (by kernel_rfl) (by kernel_rfl) hv h
  obtain ⟨z0, e0, rfl, w0⟩ := DataW.trod_int Tryd.underlying23 h0
  obtain ⟨z1, e1, rfl, w1⟩ := DataW.trod_int Tryd.underlying2 h1
  obtain ⟨z2, e2, rfl, w2⟩ := DataW.trod_string Tryd.underlying9 h2
  injection e0 with e0
  injection e1 with e1
  injection e2 with e2
  subst e0 e1 e2
  exact ⟨z0, z1, z2, rfl, rfl, rfl, w0, w1, w2⟩
set_option maxRecDepth 100000 in
theorem shut_val {H : Type} {enc : TypeId × Value → H} {W : World} {base : Nat} {sp : Nat → Bool} {held : Bool} {k n : Int} {s : ByteArray} (w0 : (Lit.int .u8 k).wf = true) (w1 : (Lit.int .i64 n).wf = true) (w2 : s.size ≤ maxLen) :
    DataW.Trod enc Tryd.prog W base sp held 25 (.agg #[.int .u8 k, .int .i64 n, .string s]) (.agg [.lit (.int .u8 k), .lit (.int .i64 n), .lit (.string s.data.toList)]) [] :=
  shut_agg3 (y0 := (.lit (.int .u8 k), [])) (y1 := (.lit (.int .i64 n), [])) (y2 := (.lit (.string s.data.toList), [])) Tryd.underlying25 (by kernel_rfl) (by kernel_rfl)
    (field_of_Trod (shut_int Tryd.underlying23 w0) rfl) (field_of_Trod (shut_int Tryd.underlying2 w1) rfl) (field_of_Trod (shut_string Tryd.underlying9 w2) rfl)
end Go.Proofs.YtbodlnoipkommaaDoor.Ry
/- Rows over value's types: a number's bounds out of its literal. -/
namespace Go.Proofs.YtbodlnoipkommaaDoor.Ry
open Go.RowKit
theorem i64_of {n : Int} (h : (Lit.int .i64 n).wf = true) : Wp.I64 n := by
  have h' : decide (IntKind.i64.min ≤ n) = true ∧ decide (n ≤ IntKind.i64.max) = true := by simpa [Lit.wf] using h
  have a := of_decide_eq_true h'.1
  have b := of_decide_eq_true h'.2
  have e1 : IntKind.i64.min = -9223372036854775808 := rfl
  have e2 : IntKind.i64.max = 9223372036854775807 := rfl
  rw [e1] at a
  rw [e2] at b
  exact ⟨a, by omega⟩
end Go.Proofs.YtbodlnoipkommaaDoor.Ry

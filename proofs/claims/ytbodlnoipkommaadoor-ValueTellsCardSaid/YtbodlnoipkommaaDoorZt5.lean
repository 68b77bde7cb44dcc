/- Merged out of this session's texts: Qxf29, Pa, Pb, Wl -/
import Derived.Test.YtbodlnoipkommaaDoorZt3
import Derived.Test.YtbodlnoipkommaaDoorZt4
import Derived.Deep.QuietTactic
import Derived.BigQuiet
import Derived.Laws.BitsAllLaws
import Derived.LoopN
set_option linter.unusedVariables false
set_option linter.unusedSimpArgs false
namespace Go.Proofs.YtbodlnoipkommaaDoor.Q
open Go.RowKit Go.Proofs.YtbodlnoipkommaaDoorW.PrintWords Go.Proofs.YtbodlnoipkommaaDoorW.PrintLast Go.Proofs.YtbodlnoipkommaaDoorW.PrintMore
attribute [local go_sem] max2_int min2_int max_two min_two max_three min_three max_four min_four   -- for this text's walks alone
set_option linter.unusedVariables false
set_option linter.unusedSimpArgs false
def value_Of.f (a0 : Int) : Option (Int × Int × ByteArray) := if a0 = 1 then (some (1, 1, (⟨#[]⟩ : ByteArray))) else (if a0 = 0 then (some (1, 0, (⟨#[]⟩ : ByteArray))) else (some (0, 0, (⟨#[]⟩ : ByteArray))))
set_option maxHeartbeats 8000000 in
set_option maxRecDepth 100000 in
theorem value_Of.calls (a0 : Int) (r1 : Int) (r2 : Int) (r3 : ByteArray) (w : World) (h : value_Of.f a0 = some (r1, r2, r3)) :
    Calls Tryd.prog 29 #[.int .u8 a0] w fun e w' => e = .returned (.agg #[.int .u8 r1, .int .i64 r2, .string r3]) ∧ Below w.heap.size w w' := by
  have hu25 := Tryd.underlying25
  have HB := Aside0.mk (Below.refl w.heap.size w)
  have H : (if a0 = 1 then (some (1, 1, (⟨#[]⟩ : ByteArray))) else (if a0 = 0 then (some (1, 0, (⟨#[]⟩ : ByteArray))) else (some (0, 0, (⟨#[]⟩ : ByteArray))))) = some (r1, r2, r3) := h
  clear h
  by_cases c2 : a0 = 1
  · rw [if_pos c2] at H
    have c2b0 : (a0 == 1) = true := beq_iff_eq.mpr c2
    have c2b1 : (a0 != 1) = false := bne_eq_false_iff_eq.mpr c2
    clear c2
    simp only [Option.some.injEq, Prod.mk.injEq] at H
    obtain ⟨rfl, rfl, rfl⟩ := H
    go_enter Tryd.func29, Tryd.ntmps29
    go_wp2_with (first | ((with_reducible refine gate_dst (N := 2) rfl ?_); refine box_event ?hg (N := 2) ?hd (cs := #[.int .u8 0, .int .i64 0, .string (⟨#[]⟩ : ByteArray)]) (t := 25) ?hr ?_; (case hd => rfl); (case hg => rfl); (case hr => first | (go_simp; done) | (go_simp; rfl)); intro gb204 hg w3 hbox hb; have n0_ := Aside0.mk (below_step (by repeat (first | (with_reducible first | exact HB.out | apply below_alloc | apply pw_below_drewN | apply below_drew1) | exact HB.out)) hb); have n1_ := Aside0.mk (hbox); have n2_ := Aside0.mk ((by rw [hg]; exact (below_size (by repeat (first | (with_reducible first | exact HB.out | apply below_alloc | apply pw_below_drewN | apply below_drew1) | exact HB.out))) : w.heap.size ≤ gb204)); have n3_ := Aside0.mk ((by rw [hg]; exact (below_size (by repeat (first | (with_reducible first | exact HB.out | apply below_alloc | apply pw_below_drewN | apply below_drew1) | exact HB.out))) : w.heap.size ≤ gb204)); clear HB; have HB := n0_; have BK204 := n1_; have GW204 := n2_; have GE204 := n3_; clear n0_ n1_ n2_ n3_; clear hb hbox hg; have hcz4_0 : w3.cell? ⟨gb204, 0, none⟩ = some (.int .u8 0) := (blk_cell BK204.out 0).trans rfl; have hcz4_1 : w3.cell? ⟨gb204, 1, none⟩ = some (.int .i64 0) := (blk_cell BK204.out 1).trans rfl; have hcz4_2 : w3.cell? ⟨gb204, 2, none⟩ = some (.string (⟨#[]⟩ : ByteArray)) := (blk_cell BK204.out 2).trans rfl; have hfz4_0 := blk_frozen BK204.out 0; have hfz4_1 := blk_frozen BK204.out 1; have hfz4_2 := blk_frozen BK204.out 2))
    refine bodyPost_ret (results_cell_row rfl _ _ gb204 25 #[.int .u8 1, .int .i64 1, .string (⟨#[]⟩ : ByteArray)] (0, 0) _ rfl (by (with_reducible repeat (first | refine blk_drewN ?_ _ | refine blk_drew ?_ | refine blk_alloc ?_ _)); refine blk_put (cs := #[.int .u8 1, .int .i64 1, .string (⟨#[]⟩ : ByteArray)]) ?_ 2 _ rfl; (with_reducible repeat (first | refine blk_drewN ?_ _ | refine blk_drew ?_ | refine blk_alloc ?_ _)); refine blk_put (cs := #[.int .u8 1, .int .i64 0, .string (⟨#[]⟩ : ByteArray)]) ?_ 1 _ rfl; (with_reducible repeat (first | refine blk_drewN ?_ _ | refine blk_drew ?_ | refine blk_alloc ?_ _)); refine blk_put (cs := #[.int .u8 0, .int .i64 0, .string (⟨#[]⟩ : ByteArray)]) ?_ 0 _ rfl; (with_reducible repeat (first | refine blk_drewN ?_ _ | refine blk_drew ?_ | refine blk_alloc ?_ _)); exact BK204.out) Tryd.underlying25 rfl (by kernel_rfl)) rfl ?_
    exact ⟨by first | rfl | (simp [errW_none, errW_some] <;> rfl) | (simp [*, errW_none, errW_some] <;> rfl), by repeat (first | (with_reducible first | exact HB.out | apply below_alloc | apply pw_below_drewN | apply below_drew1 | refine below_set ?_ GE204.out) | exact HB.out)⟩
  · rw [if_neg c2] at H
    have c2b0 : (a0 == 1) = false := beq_eq_false_iff_ne.mpr c2
    have c2b1 : (a0 != 1) = true := bne_iff_ne.mpr c2
    by_cases c5 : a0 = 0
    · rw [if_pos c5] at H
      have c5b0 : (a0 == 0) = true := beq_iff_eq.mpr c5
      have c5b1 : (a0 != 0) = false := bne_eq_false_iff_eq.mpr c5
      clear c5
      simp only [Option.some.injEq, Prod.mk.injEq] at H
      obtain ⟨rfl, rfl, rfl⟩ := H
      go_enter Tryd.func29, Tryd.ntmps29
      go_wp2_with (first | ((with_reducible refine gate_dst (N := 2) rfl ?_); refine box_event ?hg (N := 2) ?hd (cs := #[.int .u8 0, .int .i64 0, .string (⟨#[]⟩ : ByteArray)]) (t := 25) ?hr ?_; (case hd => rfl); (case hg => rfl); (case hr => first | (go_simp; done) | (go_simp; rfl)); intro gb204 hg w6 hbox hb; have n0_ := Aside0.mk (below_step (by repeat (first | (with_reducible first | exact HB.out | apply below_alloc | apply pw_below_drewN | apply below_drew1) | exact HB.out)) hb); have n1_ := Aside0.mk (hbox); have n2_ := Aside0.mk ((by rw [hg]; exact (below_size (by repeat (first | (with_reducible first | exact HB.out | apply below_alloc | apply pw_below_drewN | apply below_drew1) | exact HB.out))) : w.heap.size ≤ gb204)); have n3_ := Aside0.mk ((by rw [hg]; exact (below_size (by repeat (first | (with_reducible first | exact HB.out | apply below_alloc | apply pw_below_drewN | apply below_drew1) | exact HB.out))) : w.heap.size ≤ gb204)); clear HB; have HB := n0_; have BK204 := n1_; have GW204 := n2_; have GE204 := n3_; clear n0_ n1_ n2_ n3_; clear hb hbox hg; have hcz7_0 : w6.cell? ⟨gb204, 0, none⟩ = some (.int .u8 0) := (blk_cell BK204.out 0).trans rfl; have hcz7_1 : w6.cell? ⟨gb204, 1, none⟩ = some (.int .i64 0) := (blk_cell BK204.out 1).trans rfl; have hcz7_2 : w6.cell? ⟨gb204, 2, none⟩ = some (.string (⟨#[]⟩ : ByteArray)) := (blk_cell BK204.out 2).trans rfl; have hfz7_0 := blk_frozen BK204.out 0; have hfz7_1 := blk_frozen BK204.out 1; have hfz7_2 := blk_frozen BK204.out 2))
      refine bodyPost_ret (results_cell_row rfl _ _ gb204 25 #[.int .u8 1, .int .i64 0, .string (⟨#[]⟩ : ByteArray)] (0, 0) _ rfl (by (with_reducible repeat (first | refine blk_drewN ?_ _ | refine blk_drew ?_ | refine blk_alloc ?_ _)); refine blk_put (cs := #[.int .u8 1, .int .i64 0, .string (⟨#[]⟩ : ByteArray)]) ?_ 2 _ rfl; (with_reducible repeat (first | refine blk_drewN ?_ _ | refine blk_drew ?_ | refine blk_alloc ?_ _)); refine blk_put (cs := #[.int .u8 1, .int .i64 0, .string (⟨#[]⟩ : ByteArray)]) ?_ 1 _ rfl; (with_reducible repeat (first | refine blk_drewN ?_ _ | refine blk_drew ?_ | refine blk_alloc ?_ _)); refine blk_put (cs := #[.int .u8 0, .int .i64 0, .string (⟨#[]⟩ : ByteArray)]) ?_ 0 _ rfl; (with_reducible repeat (first | refine blk_drewN ?_ _ | refine blk_drew ?_ | refine blk_alloc ?_ _)); exact BK204.out) Tryd.underlying25 rfl (by kernel_rfl)) rfl ?_
      exact ⟨by first | rfl | (simp [errW_none, errW_some] <;> rfl) | (simp [*, errW_none, errW_some] <;> rfl), by repeat (first | (with_reducible first | exact HB.out | apply below_alloc | apply pw_below_drewN | apply below_drew1 | refine below_set ?_ GE204.out) | exact HB.out)⟩
    · rw [if_neg c5] at H
      have c5b0 : (a0 == 0) = false := beq_eq_false_iff_ne.mpr c5
      have c5b1 : (a0 != 0) = true := bne_iff_ne.mpr c5
      simp only [Option.some.injEq, Prod.mk.injEq] at H
      obtain ⟨rfl, rfl, rfl⟩ := H
      go_enter Tryd.func29, Tryd.ntmps29
      go_wp2_with (first | ((with_reducible refine gate_dst (N := 2) rfl ?_); refine box_event ?hg (N := 2) ?hd (cs := #[.int .u8 0, .int .i64 0, .string (⟨#[]⟩ : ByteArray)]) (t := 25) ?hr ?_; (case hd => rfl); (case hg => rfl); (case hr => first | (go_simp; done) | (go_simp; rfl)); intro gb204 hg w8 hbox hb; have n0_ := Aside0.mk (below_step (by repeat (first | (with_reducible first | exact HB.out | apply below_alloc | apply pw_below_drewN | apply below_drew1) | exact HB.out)) hb); have n1_ := Aside0.mk (hbox); have n2_ := Aside0.mk ((by rw [hg]; exact (below_size (by repeat (first | (with_reducible first | exact HB.out | apply below_alloc | apply pw_below_drewN | apply below_drew1) | exact HB.out))) : w.heap.size ≤ gb204)); have n3_ := Aside0.mk ((by rw [hg]; exact (below_size (by repeat (first | (with_reducible first | exact HB.out | apply below_alloc | apply pw_below_drewN | apply below_drew1) | exact HB.out))) : w.heap.size ≤ gb204)); clear HB; have HB := n0_; have BK204 := n1_; have GW204 := n2_; have GE204 := n3_; clear n0_ n1_ n2_ n3_; clear hb hbox hg; have hcz9_0 : w8.cell? ⟨gb204, 0, none⟩ = some (.int .u8 0) := (blk_cell BK204.out 0).trans rfl; have hcz9_1 : w8.cell? ⟨gb204, 1, none⟩ = some (.int .i64 0) := (blk_cell BK204.out 1).trans rfl; have hcz9_2 : w8.cell? ⟨gb204, 2, none⟩ = some (.string (⟨#[]⟩ : ByteArray)) := (blk_cell BK204.out 2).trans rfl; have hfz9_0 := blk_frozen BK204.out 0; have hfz9_1 := blk_frozen BK204.out 1; have hfz9_2 := blk_frozen BK204.out 2))
      refine bodyPost_ret (results_cell_row rfl _ _ gb204 25 #[.int .u8 0, .int .i64 0, .string (⟨#[]⟩ : ByteArray)] (0, 0) _ rfl (by (with_reducible repeat (first | refine blk_drewN ?_ _ | refine blk_drew ?_ | refine blk_alloc ?_ _)); refine blk_put (cs := #[.int .u8 0, .int .i64 0, .string (⟨#[]⟩ : ByteArray)]) ?_ 2 _ rfl; (with_reducible repeat (first | refine blk_drewN ?_ _ | refine blk_drew ?_ | refine blk_alloc ?_ _)); refine blk_put (cs := #[.int .u8 0, .int .i64 0, .string (⟨#[]⟩ : ByteArray)]) ?_ 1 _ rfl; (with_reducible repeat (first | refine blk_drewN ?_ _ | refine blk_drew ?_ | refine blk_alloc ?_ _)); refine blk_put (cs := #[.int .u8 0, .int .i64 0, .string (⟨#[]⟩ : ByteArray)]) ?_ 0 _ rfl; (with_reducible repeat (first | refine blk_drewN ?_ _ | refine blk_drew ?_ | refine blk_alloc ?_ _)); exact BK204.out) Tryd.underlying25 rfl (by kernel_rfl)) rfl ?_
      exact ⟨by first | rfl | (simp [errW_none, errW_some] <;> rfl) | (simp [*, errW_none, errW_some] <;> rfl), by repeat (first | (with_reducible first | exact HB.out | apply below_alloc | apply pw_below_drewN | apply below_drew1 | refine below_set ?_ GE204.out) | exact HB.out)⟩
end Go.Proofs.YtbodlnoipkommaaDoor.Q
namespace Go.Proofs.YtbodlnoipkommaaDoor.Pa
open Go.RowKit Go.Proofs.YtbodlnoipkommaaDoor.Q Go.Proofs.YtbodlnoipkommaaDoor.We Go.Proofs.YtbodlnoipkommaaDoor.Wf Go.Proofs.YtbodlnoipkommaaDoor.Wg Go.Proofs.YtbodlnoipkommaaDoor.Wh Go.Proofs.YtbodlnoipkommaaDoor.Wj Go.Proofs.YtbodlnoipkommaaDoor.Wk Go.Proofs.YtbodlnoipkommaaDoor.Wo Go.Proofs.YtbodlnoipkommaaDoor.Wp Go.Proofs.YtbodlnoipkommaaDoor.Wq Go.Proofs.YtbodlnoipkommaaDoor.Ws Go.Proofs.YtbodlnoipkommaaDoor.Wt Go.Proofs.YtbodlnoipkommaaDoorW.PrintWords Go.Proofs.YtbodlnoipkommaaDoorW.PrintLast Go.Proofs.YtbodlnoipkommaaDoorW.PrintMore
def cmpI (x y : Int) : Int := if x < y then -1 else if x > y then 1 else 0
theorem cmp64_f (x y : Int) : cmp_Compare_int64.f x y = some (cmpI x y) := by
  unfold cmp_Compare_int64.f cmpI
  have h : ∀ z, cmp_isNaN_int64.f z = some false := fun z => by unfold cmp_isNaN_int64.f; simp
  rw [h, h]
  simp only [Option.bind_some, Bool.false_eq_true, if_false]
  split
  · rfl
  · split <;> rfl
theorem cmpK_f (x y : Int) : api_Kind_47.f x y = some (cmpI x y) := by
  unfold api_Kind_47.f cmpI
  have h : ∀ z, api_Kind_77.f z = some false := fun z => by unfold api_Kind_77.f; simp
  rw [h, h]
  simp only [Option.bind_some, Bool.false_eq_true, if_false]
  split
  · rfl
  · split <;> rfl
def cmpS (s t : ByteArray) : Int := Lib.compareBytes s.data.toList t.data.toList
def orderR (k0 n0 : Int) (s0 : ByteArray) (k1 n1 : Int) (s1 : ByteArray) : Int :=
  if cmpI k0 k1 = 0 then (if cmpI n0 n1 = 0 then cmpS s0 s1 else cmpI n0 n1) else cmpI k0 k1
theorem order_f (k0 n0 : Int) (s0 : ByteArray) (k1 n1 : Int) (s1 : ByteArray) : value_Order.f k0 n0 s0 k1 n1 s1 = some (orderR k0 n0 s0 k1 n1 s1) := by
  unfold value_Order.f orderR
  rw [cmpK_f, cmp64_f]
  simp only [Option.bind_some]
  split
  · split
    · rfl
    · rfl
  · rfl
theorem cmpI_zero {x y : Int} : cmpI x y = 0 ↔ x = y := by unfold cmpI; split <;> (try split) <;> omega
theorem cmpI_range (x y : Int) : cmpI x y = -1 ∨ cmpI x y = 0 ∨ cmpI x y = 1 := by unfold cmpI; split <;> (try split) <;> omega
theorem cb_range : ∀ a b : List UInt8, Lib.compareBytes a b = -1 ∨ Lib.compareBytes a b = 0 ∨ Lib.compareBytes a b = 1
  | [], [] => Or.inr (Or.inl rfl)
  | [], _ :: _ => Or.inl rfl
  | _ :: _, [] => Or.inr (Or.inr rfl)
  | a :: xs, b :: ys => by
    unfold Lib.compareBytes
    split
    · exact Or.inl rfl
    · split
      · exact Or.inr (Or.inr rfl)
      · exact cb_range xs ys
theorem order_range (k0 n0 : Int) (s0 : ByteArray) (k1 n1 : Int) (s1 : ByteArray) : orderR k0 n0 s0 k1 n1 s1 = -1 ∨ orderR k0 n0 s0 k1 n1 s1 = 0 ∨ orderR k0 n0 s0 k1 n1 s1 = 1 := by
  unfold orderR
  split
  · split
    · exact cb_range _ _
    · exact cmpI_range _ _
  · exact cmpI_range _ _
end Go.Proofs.YtbodlnoipkommaaDoor.Pa
namespace Go.Proofs.YtbodlnoipkommaaDoor.Pb
open Go.RowKit Go.Proofs.YtbodlnoipkommaaDoor.Q Go.Proofs.YtbodlnoipkommaaDoor.We Go.Proofs.YtbodlnoipkommaaDoor.Wf Go.Proofs.YtbodlnoipkommaaDoor.Wg Go.Proofs.YtbodlnoipkommaaDoor.Wh Go.Proofs.YtbodlnoipkommaaDoor.Wj Go.Proofs.YtbodlnoipkommaaDoor.Wk Go.Proofs.YtbodlnoipkommaaDoor.Wo Go.Proofs.YtbodlnoipkommaaDoor.Wp Go.Proofs.YtbodlnoipkommaaDoor.Wq Go.Proofs.YtbodlnoipkommaaDoor.Ws Go.Proofs.YtbodlnoipkommaaDoor.Wt Go.Proofs.YtbodlnoipkommaaDoor.Pa Go.Proofs.YtbodlnoipkommaaDoorW.PrintWords Go.Proofs.YtbodlnoipkommaaDoorW.PrintLast Go.Proofs.YtbodlnoipkommaaDoorW.PrintMore
def boolT (b : Bool) : Int := bif b then 1 else 0
def cmpop (op c : Int) : Bool :=
  bif op == 7 then c == 0 else bif op == 8 then c != 0 else bif op == 9 then decide (c < 0) else bif op == 10 then decide (c ≤ 0) else bif op == 11 then decide (c > 0) else bif op == 12 then decide (c ≥ 0) else false
def fixV (k n : Int) : Int := if k = 2 then n * 10000 else n
def sgn (d : Int) : Int := if d < 0 then -1 else if d = 0 then 0 else 1
def compareR (op k0 n0 : Int) (s0 : ByteArray) (k1 n1 : Int) (s1 : ByteArray) : Int × Int :=
  if op < 7 ∨ op > 12 ∨ rightB k0 n0 s0 = false ∨ rightB k1 n1 s1 = false then (0, 2) else
  if k0 = 0 ∨ k1 = 0 then (2, 0) else
  if k0 = k1 then (boolT (cmpop op (orderR k0 n0 s0 k1 n1 s1)), 0) else
  if numB k0 = true ∧ numB k1 = true then (boolT (cmpop op (sgn (fixV k0 n0 - fixV k1 n1))), 0) else (0, 270)
theorem fix_range (k n : Int) (hn : I64 n) : I128 (fixV k n) ∧ I128 (-fixV k n) ∧ ∀ k' n', I64 n' → I128 (fixV k n + fixV k' n') ∧ I128 (fixV k n - fixV k' n') ∧ I128 (fixV k n + -fixV k' n') := by
  obtain ⟨h1, h2⟩ := hn
  refine ⟨?_, ?_, ?_⟩
  · unfold fixV I128; split <;> omega
  · unfold fixV I128; split <;> omega
  · intro k' n' ⟨h3, h4⟩
    refine ⟨?_, ?_, ?_⟩ <;> (unfold fixV I128; split <;> split <;> omega)
theorem fixed_fV (k n : Int) (s : ByteArray) (hn : I64 n) : value_fixed.f k n s = some (hi (fixV k n), lo (fixV k n)) := fixed_f k n s hn
theorem sgn_f (d : Int) (hd : I128 d) : (if cmpI (hi d) 0 = 0 then (if lo d = 0 then cmpI (hi d) 0 else 1) else cmpI (hi d) 0) = sgn d := by
  obtain ⟨h1, h2⟩ := hd
  unfold sgn
  by_cases hneg : d < 0
  · have h : hi d < 0 := (hi_neg d).2 hneg
    have e : cmpI (hi d) 0 = -1 := by unfold cmpI; rw [if_pos h]
    rw [e, if_neg (by decide), if_pos hneg]
  · have h : ¬ hi d < 0 := fun c => hneg ((hi_neg d).1 c)
    rw [if_neg hneg]
    by_cases hz : hi d = 0
    · have e : cmpI (hi d) 0 = 0 := cmpI_zero.2 hz
      rw [e, if_pos rfl]
      by_cases hl : lo d = 0
      · have : d = 0 := by unfold hi lo at *; omega
        rw [if_pos hl, if_pos this]
      · have : d ≠ 0 := by rintro rfl; exact hl rfl
        rw [if_neg hl, if_neg this]
    · have e : cmpI (hi d) 0 = 1 := by unfold cmpI; rw [if_neg h, if_pos (by omega)]
      have : d ≠ 0 := by rintro rfl; exact hz rfl
      rw [e, if_neg (by decide), if_neg this]
def toldR (k x : Int) : V4 := if I64 x then (k, x, ⟨#[]⟩, 0) else (0, 0, ⟨#[]⟩, 271)
theorem told_fR (x k : Int) (hx : I128 x) : value_wide_told.f (hi x) (lo x) k = some (toldR k x) := by
  rw [told_f x k hx]; unfold toldR; split <;> rfl
def addR (k0 n0 : Int) (s0 : ByteArray) (k1 n1 : Int) (s1 : ByteArray) : V4 :=
  if (askedR k0 n0 s0 k1 n1 s1).2 ≠ 0 ∨ (askedR k0 n0 s0 k1 n1 s1).1 = true then (0, 0, ⟨#[]⟩, (askedR k0 n0 s0 k1 n1 s1).2) else
  if k0 = 2 ∧ k1 = 2 then toldR 2 (n0 + n1) else toldR 3 (fixV k0 n0 + fixV k1 n1)
theorem join_add (x y k : Int) (hx : I128 x) (hy : I128 y) (hs : I128 (x + y)) : joinF idF (some (hi x, lo x)) (some (hi y, lo y)) k = some (toldR k (x + y)) := by
  unfold joinF idF
  simp only [Option.bind_some]
  rw [plus_f x y hx hy hs]
  simp only [Option.bind_some]
  exact told_fR _ _ hs
theorem sum_range {n0 n1 : Int} (h0 : I64 n0) (h1 : I64 n1) : I128 (n0 + n1) ∧ I128 (n0 - n1) := by
  obtain ⟨a, b⟩ := h0
  obtain ⟨c, d⟩ := h1
  constructor <;> (unfold I128; omega)
theorem add_f (k0 n0 : Int) (s0 : ByteArray) (k1 n1 : Int) (s1 : ByteArray) (h0 : I64 n0) (h1 : I64 n1) : value_Add.f k0 n0 s0 k1 n1 s1 = some (addR k0 n0 s0 k1 n1 s1) := by
  unfold value_Add.f sumF addR
  by_cases ha : (askedR k0 n0 s0 k1 n1 s1).2 ≠ 0 ∨ (askedR k0 n0 s0 k1 n1 s1).1 = true
  · rw [if_pos ha, if_pos ha]
  rw [if_neg ha, if_neg ha]
  by_cases hk : k0 = 2 ∧ k1 = 2
  · rw [if_pos hk, if_pos hk, of_f n0 h0, of_f n1 h1]
    exact join_add _ _ _ (I128_of_I64 h0).1 (I128_of_I64 h1).1 (sum_range h0 h1).1
  · rw [if_neg hk, if_neg hk, fixed_fV k0 n0 s0 h0, fixed_fV k1 n1 s1 h1]
    exact join_add _ _ _ (fix_range k0 n0 h0).1 (fix_range k1 n1 h1).1 ((fix_range k0 n0 h0).2.2 k1 n1 h1).1
end Go.Proofs.YtbodlnoipkommaaDoor.Pb
namespace Go.Proofs.YtbodlnoipkommaaDoor.Wl
open Go.RowKit Go.Proofs.YtbodlnoipkommaaDoor.Wf Go.Proofs.YtbodlnoipkommaaDoor.We Go.Proofs.YtbodlnoipkommaaDoorW.PrintWords Go.Proofs.YtbodlnoipkommaaDoorW.PrintLast Go.Proofs.YtbodlnoipkommaaDoorW.PrintMore
set_option maxRecDepth 100000 in
set_option maxHeartbeats 2000000 in
theorem div0 (b : Int) (h0 : 0 ≤ b) (h1 : b < 18446744073709551616) (w : World) :
    Calls Tryd.prog 62 #[.int .u64 0, .int .u64 b, .int .u64 10000] w fun e w' => e = .returned (.tuple #[.int .u64 (b / 10000), .int .u64 (b % 10000)]) ∧ Drawn0 w w' := by
  go_enter Tryd.func62, Tryd.ntmps62
  go_wp2_with fail
  go_quiet (fail)
  go_wp2
  go_ret2
  exact ⟨rfl, nq, rfl⟩
theorem lz (w : World) : Calls Tryd.prog 86 #[.int .u64 10000] w fun e w' => e = .returned (.int .i64 50) ∧ w' = w := by
  have h := Tryd.bits_LeadingZeros64 10000 w (by decide) (by decide)
  rwa [show (64 - (Lib.bitLen (10000 : Int).toNat : Int)) = 50 by decide] at h
theorem or_disjoint (a b : Nat) (ha : a < 10000) (hb : b < 18446744073709551616) :
    bits .or .u64 ((a : Int) * 1125899906842624) ((b : Int) / 16384) = ((a * 1125899906842624 + b / 16384 : Nat) : Int) := by
  have h1 : b / 16384 < 2 ^ 50 := by omega
  have e : (a * 1125899906842624) ||| (b / 16384) = a * 1125899906842624 + b / 16384 := by
    have := Nat.two_pow_add_eq_or_of_lt h1 a
    rw [Nat.mul_comm] at this
    exact this.symm
  have h := u64_or_nat (a * 1125899906842624) (b / 16384) (by omega) (by omega)
  rw [e] at h
  rw [← h]
  congr 1
  all_goals omega
theorem and_mask (l : Nat) (hl : l < 18446744073709551616) : bits .and .u64 (l : Int) 4294967295 = ((l % 4294967296 : Nat) : Int) := by
  have h := u64_and_nat l 4294967295 hl (by omega)
  have e : l &&& 4294967295 = l % 4294967296 := Nat.and_two_pow_sub_one_eq_mod l 32
  rw [e] at h
  exact h
theorem w1 (X : Int) (h0 : 0 ≤ X) (h1 : X < 11258999068426240000) : IntKind.u64.wrap (X - X / 2621440000 * 2621440000) = X % 2621440000 := by rw [IntKind.wrap_u64]; omega
set_option maxRecDepth 100000 in
set_option maxHeartbeats 2000000 in
theorem div1 (a b X L U R S : Int) (ha0 : 1 ≤ a) (ha : a < 10000) (hb0 : 0 ≤ b) (h1 : b < 18446744073709551616) (hX : bits .or .u64 (a * 1125899906842624) (b / 16384) = X) (hL : IntKind.u64.wrap (b * 1125899906842624) = L)
    (hU : bits .and .u64 L 4294967295 = U) (hA : bits .and .u64 11258999068426240000 4294967295 = 0)
    (bX0 : 0 ≤ X) (bX : X < 11258999068426240000) (bL0 : 0 ≤ L) (bL : L < 18446744073709551616) (bU0 : 0 ≤ U) (bU : U < 4294967296)
    (hR : IntKind.u64.wrap (IntKind.u64.wrap (IntKind.u64.wrap (X * 4294967296) + L / 4294967296) - IntKind.u64.wrap (X / 2621440000 * 11258999068426240000)) = R) (bR0 : 0 ≤ R) (bR : R < 11258999068426240000)
    (hS : IntKind.u64.wrap (IntKind.u64.wrap (IntKind.u64.wrap (R * 4294967296) + U) - IntKind.u64.wrap (R / 2621440000 * 11258999068426240000)) = S) (bS0 : 0 ≤ S) (bS : S < 11258999068426240000) (w : World) :
    Calls Tryd.prog 62 #[.int .u64 a, .int .u64 b, .int .u64 10000] w fun e w' => e = .returned (.tuple #[.int .u64 (X / 2621440000 * 4294967296 + R / 2621440000), .int .u64 (S / 1125899906842624)]) ∧ Drawn0 w w' := by
  have e1 : ¬ (a = 0) := by omega
  have e2 : ¬ (10000 ≤ a) := by omega
  have hw1 := w1 X bX0 bX
  have hw2 := w1 R bR0 bR
  go_enter Tryd.func62, Tryd.ntmps62
  go_wp2_with fail
  refine (lz w).mono ?_
  rintro e w' ⟨rfl, rfl⟩
  go_wp2_with fail
  have e3 : ¬ (4294967296 ≤ X / 2621440000) := by omega
  have k1 : 0 ≤ X / 2621440000 := by omega
  have k3 : 0 ≤ X % 2621440000 := by omega
  have k4 : X % 2621440000 < 2621440000 := by omega
  have k5 : 0 ≤ L / 4294967296 := by omega
  have k6 : L / 4294967296 < 4294967296 := by omega
  have k7 : ¬ (4294967296 * (X % 2621440000) + L / 4294967296 < 0) := by omega
  have k8 : X / 2621440000 < 4294967296 := by omega
  have d3 : ¬ (4294967296 ≤ R / 2621440000) := by omega
  have d1 : 0 ≤ R / 2621440000 := by omega
  have d3' : 0 ≤ R % 2621440000 := by omega
  have d4 : R % 2621440000 < 2621440000 := by omega
  have d7 : ¬ (4294967296 * (R % 2621440000) + U < 0) := by omega
  have d8 : R / 2621440000 < 4294967296 := by omega
  have d9 : X / 2621440000 * 4294967296 + R / 2621440000 < 18446744073709551616 := by omega
  refine wp_loop_rounds 1 ?_
  rw [rounds_succ]
  go_wp2_with fail
  refine wp_loop_rounds 1 ?_
  rw [rounds_succ]
  go_wp2_with fail
  go_ret2
  exact ⟨rfl, 0, (World.drewN_zero _).symm⟩
theorem wR (X l : Int) (h0 : 0 ≤ X) (h1 : X < 11258999068426240000) (l0 : 0 ≤ l) (l1 : l < 4294967296) :
    IntKind.u64.wrap (IntKind.u64.wrap (IntKind.u64.wrap (X * 4294967296) + l) - IntKind.u64.wrap (X / 2621440000 * 11258999068426240000)) = X % 2621440000 * 4294967296 + l := by
  simp only [IntKind.wrap_u64]
  rw [← Int.sub_emod]
  rw [Int.sub_emod, Int.emod_add_emod, ← Int.sub_emod]
  have e : X * 4294967296 + l - X / 2621440000 * 11258999068426240000 = X % 2621440000 * 4294967296 + l := by
    have := Int.emod_def X 2621440000
    rw [this]; omega
  rw [e, Int.emod_eq_of_lt]
  · have : 0 ≤ X % 2621440000 := by omega
    omega
  · have : X % 2621440000 < 2621440000 := by omega
    omega
theorem last (N Q S : Int) (h : N * 1125899906842624 = 11258999068426240000 * Q + S) (h0 : 0 ≤ S) (h1 : S < 11258999068426240000) : N / 10000 = Q ∧ S / 1125899906842624 = N % 10000 := by
  have e : S = 1125899906842624 * (N - 10000 * Q) := by omega
  have e1 : 0 ≤ N - 10000 * Q := by omega
  have e2 : N - 10000 * Q < 10000 := by omega
  have e3 : S / 1125899906842624 = N - 10000 * Q := by rw [e]; exact Int.mul_ediv_cancel_left _ (by decide)
  rw [e3]
  omega
theorem steps (a b X L U R S : Int) (hX : X = a * 1125899906842624 + b / 16384) (hL : L = b * 1125899906842624 % 18446744073709551616) (hU : U = L % 4294967296)
    (hR : R = X % 2621440000 * 4294967296 + L / 4294967296) (hS : S = R % 2621440000 * 4294967296 + U) :
    (a * 18446744073709551616 + b) * 1125899906842624 = 11258999068426240000 * (X / 2621440000 * 4294967296 + R / 2621440000) + S := by
  have f1 : b * 1125899906842624 = b / 16384 * 18446744073709551616 + L := by omega
  have f2 : (a * 18446744073709551616 + b) * 1125899906842624 = X * 18446744073709551616 + L := by rw [hX]; omega
  have f3 : L = 4294967296 * (L / 4294967296) + U := by omega
  have f4 : X = 2621440000 * (X / 2621440000) + X % 2621440000 := by omega
  have f5 : R = 2621440000 * (R / 2621440000) + R % 2621440000 := by omega
  clear hX hL hU f1
  generalize X / 2621440000 = q1 at *
  generalize X % 2621440000 = x at *
  generalize R / 2621440000 = q0 at *
  generalize R % 2621440000 = r at *
  generalize L / 4294967296 = l at *
  omega
def bits_Div64.f (a b y : Int) : Option (Int × Int) :=
  if (0 ≤ a ∧ a < 10000) ∧ Word b ∧ y = 10000 then some ((a * 18446744073709551616 + b) / 10000, (a * 18446744073709551616 + b) % 10000) else none
theorem bits_Div64.calls (a b y : Int) (r1 r2 : Int) (w : World) (h : bits_Div64.f a b y = some (r1, r2)) :
    Calls Tryd.prog 62 #[.int .u64 a, .int .u64 b, .int .u64 y] w fun e w' => e = .returned (.tuple #[.int .u64 r1, .int .u64 r2]) ∧ Drawn0 w w' := by
  unfold bits_Div64.f at h
  by_cases hc : (0 ≤ a ∧ a < 10000) ∧ Word b ∧ y = 10000
  case neg => rw [if_neg hc] at h; cases h
  rw [if_pos hc] at h
  injection h with h
  injection h with e1 e2
  subst e1 e2
  obtain ⟨⟨a0, a1⟩, ⟨b0, b1⟩, rfl⟩ := hc
  by_cases hz : a = 0
  · subst hz
    have := div0 b b0 b1 w
    rw [Int.zero_mul, Int.zero_add]
    exact this
  · have hO : bits .or .u64 (a * 1125899906842624) (b / 16384) = a * 1125899906842624 + b / 16384 := by
      obtain ⟨x, rfl⟩ := Int.eq_ofNat_of_zero_le a0
      obtain ⟨z, rfl⟩ := Int.eq_ofNat_of_zero_le b0
      rw [or_disjoint x z (by omega) (by omega)]
      omega
    have l0 : 0 ≤ b * 1125899906842624 % 18446744073709551616 := Int.emod_nonneg _ (by decide)
    have l1 : b * 1125899906842624 % 18446744073709551616 < 18446744073709551616 := Int.emod_lt_of_pos _ (by decide)
    have hU : bits .and .u64 (b * 1125899906842624 % 18446744073709551616) 4294967295 = b * 1125899906842624 % 18446744073709551616 % 4294967296 := by
      generalize b * 1125899906842624 % 18446744073709551616 = L at l0 l1
      obtain ⟨x, rfl⟩ := Int.eq_ofNat_of_zero_le l0
      rw [and_mask x (by omega)]
      omega
    generalize hL : b * 1125899906842624 % 18446744073709551616 = L at l0 l1 hU
    generalize hV : L % 4294967296 = U at hU
    generalize hX : a * 1125899906842624 + b / 16384 = X at hO
    have x0 : 0 ≤ X := by omega
    have x1 : X < 11258999068426240000 := by omega
    have u0 : 0 ≤ U := by omega
    have u1 : U < 4294967296 := by omega
    have R0 := wR X (L / 4294967296) x0 x1 (by omega) (by omega)
    generalize hR : X % 2621440000 * 4294967296 + L / 4294967296 = R at R0
    have r0 : 0 ≤ R := by omega
    have r1 : R < 11258999068426240000 := by omega
    have S0 := wR R U r0 r1 u0 u1
    generalize hS : R % 2621440000 * 4294967296 + U = S at S0
    have s0 : 0 ≤ S := by omega
    have s1 : S < 11258999068426240000 := by omega
    have hw : IntKind.u64.wrap (b * 1125899906842624) = L := by rw [IntKind.wrap_u64, hL]
    have st := steps a b X L U R S hX.symm hL.symm hV.symm hR.symm hS.symm
    obtain ⟨g1, g2⟩ := last _ _ S st s0 s1
    rw [g1, ← g2]
    exact div1 a b X L U R S (by omega) a1 b0 b1 hO hw hU (by decide) x0 x1 l0 l1 u0 u1 R0 r0 r1 S0 s0 s1 w
end Go.Proofs.YtbodlnoipkommaaDoor.Wl

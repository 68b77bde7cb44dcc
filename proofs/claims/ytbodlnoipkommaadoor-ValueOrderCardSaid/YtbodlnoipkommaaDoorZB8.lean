/- Merged out of this session's texts: Qxf28, Qxf29, Pa, Pb -/
import Derived.Test.YtbodlnoipkommaaDoorZB1
import Derived.Test.YtbodlnoipkommaaDoorZB6
import Derived.Test.YtbodlnoipkommaaDoorZB7
-- By a program of this session (wip/printx.py) out of the translation. Not trusted: Lean checks it.
namespace Go.Proofs.YtbodlnoipkommaaDoor.Q
open Go.RowKit Go.Proofs.YtbodlnoipkommaaDoorW.PrintWords Go.Proofs.YtbodlnoipkommaaDoorW.PrintLast Go.Proofs.YtbodlnoipkommaaDoorW.PrintMore
attribute [local go_sem] max2_int min2_int max_two min_two max_three min_three max_four min_four   -- for this text's walks alone
set_option linter.unusedVariables false
set_option linter.unusedSimpArgs false

/-! ### value_Truth: function 28 -/
def value_Truth.j0 : Nat → Bool → Int → Int → ByteArray → Option (Int × Int)
  | 0, _, _, _, _ => none
  | k + 1, x11, x203000, x203001, x203002 => if x11 = true then (some (0, 270)) else (if x203000 = 0 then (some (2, 0)) else (some ((x203001) % 256, 0)))
def value_Truth.f (k : Nat) (a0_0 : Int) (a0_1 : Int) (a0_2 : ByteArray) : Option (Int × Int) := (value_Right.f k a0_0 a0_1 a0_2).bind fun t203 => (if t203 = true then (value_Truth.j0 k (decide (a0_0 > 1)) a0_0 a0_1 a0_2) else (value_Truth.j0 k true a0_0 a0_1 a0_2))
theorem value_Truth.mono_l : ∀ k, (∀ y0 y1 y2 y3, LeO (value_Truth.j0 k y0 y1 y2 y3) (value_Truth.j0 (k + 1) y0 y1 y2 y3))
  | 0 => fun _ _ _ _ r h => by simp [value_Truth.j0] at h
  | k + 1 => by
    have ih0 := value_Truth.mono_l k
    · intro y0 y1 y2 y3
      unfold value_Truth.j0
      repeat' first
      | (with_reducible exact ih0 _ _ _ _)
      | (with_reducible exact value_Right.mono _ _ _ _)
      | (with_reducible exact LeO.refl _)
      | (with_reducible exact LeO.none _)
      | (with_reducible refine LeO.ite ?_ ?_)
      | (with_reducible refine LeO.bind ?_ (fun _ => ?_))
      | exact ih0 _ _ _ _
      | exact value_Right.mono _ _ _ _
      | exact LeO.none _
      | refine LeO.ite ?_ ?_
      | refine LeO.bind ?_ (fun _ => ?_)
theorem value_Truth.mono : ∀ a0 a1 a2 k, LeO (value_Truth.f k a0 a1 a2) (value_Truth.f (k + 1) a0 a1 a2) := by
  intro a0 a1 a2 k
  have ih0 := value_Truth.mono_l k
  unfold value_Truth.f
  repeat' first
      | (with_reducible exact ih0 _ _ _ _)
      | (with_reducible exact value_Right.mono _ _ _ _)
      | (with_reducible exact LeO.refl _)
      | (with_reducible exact LeO.none _)
      | (with_reducible refine LeO.ite ?_ ?_)
      | (with_reducible refine LeO.bind ?_ (fun _ => ?_))
      | exact ih0 _ _ _ _
      | exact value_Right.mono _ _ _ _
      | exact LeO.none _
      | refine LeO.ite ?_ ?_
      | refine LeO.bind ?_ (fun _ => ?_)
set_option maxHeartbeats 8000000 in
set_option maxRecDepth 100000 in
theorem value_Truth.calls (k : Nat) (a0_0 : Int) (a0_1 : Int) (a0_2 : ByteArray) (r1 : Int) (r2 : Int) (w : World) (h : value_Truth.f k a0_0 a0_1 a0_2 = some (r1, r2)) :
    Calls Tryd.prog 28 #[.agg #[.int .u8 a0_0, .int .i64 a0_1, .string a0_2]] w fun e w' => e = .returned (.tuple #[.int .u8 r1, .int .i64 r2]) ∧ Below w.heap.size w w' := by
  have hu25 := Tryd.underlying25
  have HB := Aside0.mk (Below.refl w.heap.size w)
  have H : ((value_Right.f k a0_0 a0_1 a0_2).bind fun t203 => (if t203 = true then (value_Truth.j0 k (decide (a0_0 > 1)) a0_0 a0_1 a0_2) else (value_Truth.j0 k true a0_0 a0_1 a0_2))) = some (r1, r2) := h
  clear h
  have HC2 := Aside0.mk H
  clear H
  go_enter Tryd.func28, Tryd.ntmps28
  go_upto_region 1 with (first | ((with_reducible refine gate_dst (N := 1) rfl ?_); refine box_event ?hg (N := 1) ?hd (cs := #[.int .u8 a0_0, .int .i64 a0_1, .string a0_2]) (t := 25) ?hr ?_; (case hd => rfl); (case hg => rfl); (case hr => first | (go_simp; done) | (go_simp; rfl)); intro gb202 hg w3 hbox hb; have n0_ := Aside0.mk (below_step (by repeat (first | (with_reducible first | exact HB.out | apply below_alloc | apply pw_below_drewN | apply below_drew1) | exact HB.out)) hb); have n1_ := Aside0.mk (hbox); have n2_ := Aside0.mk ((by rw [hg]; exact (below_size (by repeat (first | (with_reducible first | exact HB.out | apply below_alloc | apply pw_below_drewN | apply below_drew1) | exact HB.out))) : w.heap.size ≤ gb202)); have n3_ := Aside0.mk ((by rw [hg]; exact (below_size (by repeat (first | (with_reducible first | exact HB.out | apply below_alloc | apply pw_below_drewN | apply below_drew1) | exact HB.out))) : w.heap.size ≤ gb202)); clear HB; have HB := n0_; have BK202 := n1_; have GW202 := n2_; have GE202 := n3_; clear n0_ n1_ n2_ n3_; clear hb hbox hg))
  (try simp only [Act.put, List.setIfInBounds_toArray, List.set_cons_zero, List.set_cons_succ])
  go_cut [11] (fun v11 wc => ∃ (kq : Nat) (x11_1 : Bool), v11 = .bool x11_1 ∧ Aside0 (value_Truth.j0 kq x11_1 a0_0 a0_1 a0_2 = some (r1, r2)) ∧ Aside0 (kq ≤ k) ∧ Aside0 (wc.heap[gb202]? = some (.cells #[.int .u8 a0_0, .int .i64 a0_1, .string a0_2] 25 (0, 0))) ∧ Aside0 (Below w.heap.size w wc))
  case first =>
    have H := HC2.out
    clear HC2
    replace H := Option.bind_eq_some_iff.mp H
    obtain ⟨t203, A40, H⟩ := H
    replace H : (if t203 = true then (value_Truth.j0 k (decide (a0_0 > 1)) a0_0 a0_1 a0_2) else (value_Truth.j0 k true a0_0 a0_1 a0_2)) = some (r1, r2) := H
    have A4 := Aside0.mk A40
    clear A40
    by_cases c5 : t203 = true
    · subst c5
      have H1 : (value_Truth.j0 k (decide (a0_0 > 1)) a0_0 a0_1 a0_2) = some (r1, r2) := by rw [if_pos rfl] at H; exact H
      clear H
      have H := H1
      clear H1
      have H' := Aside0.mk H
      clear H
      have hcz6_0 : w3.cell? ⟨gb202, 0, none⟩ = some (.int .u8 a0_0) := (blk_cell BK202.out 0).trans rfl
      have hcz6_1 : w3.cell? ⟨gb202, 1, none⟩ = some (.int .i64 a0_1) := (blk_cell BK202.out 1).trans rfl
      have hcz6_2 : w3.cell? ⟨gb202, 2, none⟩ = some (.string a0_2) := (blk_cell BK202.out 2).trans rfl
      have hfz6_0 := blk_frozen BK202.out 0
      have hfz6_1 := blk_frozen BK202.out 1
      have hfz6_2 := blk_frozen BK202.out 2
      go_wp2_with (first | ((with_reducible refine gate_callee (f := 13) rfl ?_); refine goesL_ (some 5) rfl rfl Tryd.func13 (by kernel_rfl) rfl #[.agg #[.int .u8 a0_0, .int .i64 a0_1, .string a0_2]] rfl (by (try simp only [List.map_toArray, List.map_cons, List.map_nil]); first | done | rfl | (simp only [List.length_drop, List.length_take]; rfl)) ?_; (with_reducible refine (value_Right.calls k a0_0 a0_1 a0_2 true _ A4.out).mono ?_); rintro e w7 ⟨rfl, hb⟩; refine ⟨_, rfl, ?_⟩; have n0_ := Aside0.mk (blk_below (g := gb202) (o := .cells #[.int .u8 a0_0, .int .i64 a0_1, .string a0_2] 25 (0, 0)) (by (with_reducible repeat (first | refine blk_drewN ?_ _ | refine blk_drew ?_ | refine blk_alloc ?_ _)); exact BK202.out) hb); have n1_ := Aside0.mk (below_step (by repeat (first | (with_reducible first | exact HB.out | apply below_alloc | apply pw_below_drewN | apply below_drew1 | refine below_set ?_ GE202.out) | exact HB.out)) hb); clear BK202; clear HB; have BK202 := n0_; have HB := n1_; clear n0_ n1_; (try clear hb); (try clear hb2); (try clear hk); (try clear hi); have hcz8_0 : w7.cell? ⟨gb202, 0, none⟩ = some (.int .u8 a0_0) := (blk_cell BK202.out 0).trans rfl; have hcz8_1 : w7.cell? ⟨gb202, 1, none⟩ = some (.int .i64 a0_1) := (blk_cell BK202.out 1).trans rfl; have hcz8_2 : w7.cell? ⟨gb202, 2, none⟩ = some (.string a0_2) := (blk_cell BK202.out 2).trans rfl; have hfz8_0 := blk_frozen BK202.out 0; have hfz8_1 := blk_frozen BK202.out 1; have hfz8_2 := blk_frozen BK202.out 2))
      go_meet
      case rel => exact ⟨_, (decide (a0_0 > 1)), (by first | rfl | (simp; done) | (simp [*]; done)), H', ⟨by first | omega | exact Nat.le_refl _⟩, ⟨by (with_reducible repeat (first | refine blk_drewN ?_ _ | refine blk_drew ?_ | refine blk_alloc ?_ _)); exact BK202.out⟩, ⟨by repeat (first | (with_reducible first | exact HB.out | apply below_alloc | apply pw_below_drewN | apply below_drew1 | refine below_set ?_ GE202.out) | exact HB.out)⟩⟩
    · replace c5 := Bool.eq_false_iff.mpr c5
      subst c5
      have H1 : (value_Truth.j0 k true a0_0 a0_1 a0_2) = some (r1, r2) := by rw [if_neg (show ¬ (false = true) by decide)] at H; exact H
      clear H
      have H := H1
      clear H1
      have H' := Aside0.mk H
      clear H
      have hcz9_0 : w3.cell? ⟨gb202, 0, none⟩ = some (.int .u8 a0_0) := (blk_cell BK202.out 0).trans rfl
      have hcz9_1 : w3.cell? ⟨gb202, 1, none⟩ = some (.int .i64 a0_1) := (blk_cell BK202.out 1).trans rfl
      have hcz9_2 : w3.cell? ⟨gb202, 2, none⟩ = some (.string a0_2) := (blk_cell BK202.out 2).trans rfl
      have hfz9_0 := blk_frozen BK202.out 0
      have hfz9_1 := blk_frozen BK202.out 1
      have hfz9_2 := blk_frozen BK202.out 2
      go_wp2_with (first | ((with_reducible refine gate_callee (f := 13) rfl ?_); refine goesL_ (some 5) rfl rfl Tryd.func13 (by kernel_rfl) rfl #[.agg #[.int .u8 a0_0, .int .i64 a0_1, .string a0_2]] rfl (by (try simp only [List.map_toArray, List.map_cons, List.map_nil]); first | done | rfl | (simp only [List.length_drop, List.length_take]; rfl)) ?_; (with_reducible refine (value_Right.calls k a0_0 a0_1 a0_2 false _ A4.out).mono ?_); rintro e w10 ⟨rfl, hb⟩; refine ⟨_, rfl, ?_⟩; have n0_ := Aside0.mk (blk_below (g := gb202) (o := .cells #[.int .u8 a0_0, .int .i64 a0_1, .string a0_2] 25 (0, 0)) (by (with_reducible repeat (first | refine blk_drewN ?_ _ | refine blk_drew ?_ | refine blk_alloc ?_ _)); exact BK202.out) hb); have n1_ := Aside0.mk (below_step (by repeat (first | (with_reducible first | exact HB.out | apply below_alloc | apply pw_below_drewN | apply below_drew1 | refine below_set ?_ GE202.out) | exact HB.out)) hb); clear BK202; clear HB; have BK202 := n0_; have HB := n1_; clear n0_ n1_; (try clear hb); (try clear hb2); (try clear hk); (try clear hi)))
      go_meet
      case rel => exact ⟨_, (true), (by first | rfl | (simp; done) | (simp [*]; done)), H', ⟨by first | omega | exact Nat.le_refl _⟩, ⟨by (with_reducible repeat (first | refine blk_drewN ?_ _ | refine blk_drew ?_ | refine blk_alloc ?_ _)); exact BK202.out⟩, ⟨by repeat (first | (with_reducible first | exact HB.out | apply below_alloc | apply pw_below_drewN | apply below_drew1 | refine below_set ?_ GE202.out) | exact HB.out)⟩⟩
  case rest =>
    clear HC2
    try clear c1
    try clear c2
    try clear p2
    try clear c5
    try clear hcz6_0
    try clear hcz6_1
    try clear hcz6_2
    try clear hcz8_0
    try clear hcz8_1
    try clear hcz8_2
    try clear hcz9_0
    try clear hcz9_1
    try clear hcz9_2
    try clear hfz6_0
    try clear hfz6_1
    try clear hfz6_2
    try clear hfz8_0
    try clear hfz8_1
    try clear hfz8_2
    try clear hfz9_0
    try clear hfz9_1
    try clear hfz9_2
    obtain ⟨kq, x11_1, rfl, HA, HJ1, BK202, HB⟩ := hcut
    cases kq with
    | zero => exact absurd HA.out (by simp [value_Truth.j0])
    | succ kj1 =>
      have H := HA.out
      clear HA
      simp only [value_Truth.j0] at H
      by_cases c11 : x11_1 = true
      · subst c11
        have H1 : (some (0, 270)) = some (r1, r2) := by rw [if_pos rfl] at H; exact H
        clear H
        have H := H1
        clear H1
        simp only [Option.some.injEq, Prod.mk.injEq] at H
        obtain ⟨rfl, rfl⟩ := H
        go_wp2
        go_ret2
        exact ⟨by first | rfl | (simp [errW_none, errW_some] <;> rfl) | (simp [*, errW_none, errW_some] <;> rfl), by repeat (first | (with_reducible first | exact HB.out | apply below_alloc | apply pw_below_drewN | apply below_drew1 | refine below_set ?_ GE202.out) | exact HB.out)⟩
      · replace c11 := Bool.eq_false_iff.mpr c11
        subst c11
        have H1 : (if a0_0 = 0 then (some (2, 0)) else (some ((a0_1) % 256, 0))) = some (r1, r2) := by rw [if_neg (show ¬ (false = true) by decide)] at H; exact H
        clear H
        have H := H1
        clear H1
        by_cases c12 : a0_0 = 0
        · rw [if_pos c12] at H
          have c12b0 : (a0_0 == 0) = true := beq_iff_eq.mpr c12
          have c12b1 : (a0_0 != 0) = false := bne_eq_false_iff_eq.mpr c12
          clear c12
          simp only [Option.some.injEq, Prod.mk.injEq] at H
          obtain ⟨rfl, rfl⟩ := H
          have hcz13_0 : wc.cell? ⟨gb202, 0, none⟩ = some (.int .u8 a0_0) := (blk_cell BK202.out 0).trans rfl
          have hcz13_1 : wc.cell? ⟨gb202, 1, none⟩ = some (.int .i64 a0_1) := (blk_cell BK202.out 1).trans rfl
          have hcz13_2 : wc.cell? ⟨gb202, 2, none⟩ = some (.string a0_2) := (blk_cell BK202.out 2).trans rfl
          have hfz13_0 := blk_frozen BK202.out 0
          have hfz13_1 := blk_frozen BK202.out 1
          have hfz13_2 := blk_frozen BK202.out 2
          go_wp2
          go_ret2
          exact ⟨by first | rfl | (simp [errW_none, errW_some] <;> rfl) | (simp [*, errW_none, errW_some] <;> rfl), by repeat (first | (with_reducible first | exact HB.out | apply below_alloc | apply pw_below_drewN | apply below_drew1 | refine below_set ?_ GE202.out) | exact HB.out)⟩
        · rw [if_neg c12] at H
          have c12b0 : (a0_0 == 0) = false := beq_eq_false_iff_ne.mpr c12
          have c12b1 : (a0_0 != 0) = true := bne_iff_ne.mpr c12
          simp only [Option.some.injEq, Prod.mk.injEq] at H
          obtain ⟨rfl, rfl⟩ := H
          have hcz14_0 : wc.cell? ⟨gb202, 0, none⟩ = some (.int .u8 a0_0) := (blk_cell BK202.out 0).trans rfl
          have hcz14_1 : wc.cell? ⟨gb202, 1, none⟩ = some (.int .i64 a0_1) := (blk_cell BK202.out 1).trans rfl
          have hcz14_2 : wc.cell? ⟨gb202, 2, none⟩ = some (.string a0_2) := (blk_cell BK202.out 2).trans rfl
          have hfz14_0 := blk_frozen BK202.out 0
          have hfz14_1 := blk_frozen BK202.out 1
          have hfz14_2 := blk_frozen BK202.out 2
          go_wp2
          go_ret2
          exact ⟨by first | rfl | (simp [errW_none, errW_some] <;> rfl) | (simp [*, errW_none, errW_some] <;> rfl), by repeat (first | (with_reducible first | exact HB.out | apply below_alloc | apply pw_below_drewN | apply below_drew1 | refine below_set ?_ GE202.out) | exact HB.out)⟩

end Go.Proofs.YtbodlnoipkommaaDoor.Q
-- By a program of this session (wip/printx.py) out of the translation. Not trusted: Lean checks it.
namespace Go.Proofs.YtbodlnoipkommaaDoor.Q
open Go.RowKit Go.Proofs.YtbodlnoipkommaaDoorW.PrintWords Go.Proofs.YtbodlnoipkommaaDoorW.PrintLast Go.Proofs.YtbodlnoipkommaaDoorW.PrintMore
attribute [local go_sem] max2_int min2_int max_two min_two max_three min_three max_four min_four   -- for this text's walks alone
set_option linter.unusedVariables false
set_option linter.unusedSimpArgs false

/-! ### value_Of: function 29 -/
def value_Of.f (a0 : Int) : Option (Int × Int × ByteArray) := if a0 = 1 then (some (1, 1, (⟨#[]⟩ : ByteArray))) else (if a0 = 0 then (some (1, 0, (⟨#[]⟩ : ByteArray))) else (some (0, 0, (⟨#[]⟩ : ByteArray))))
set_option maxHeartbeats 8000000 in
set_option maxRecDepth 100000 in
theorem value_Of.calls (a0 : Int) (r1 : Int) (r2 : Int) (r3 : ByteArray) (w : World) (h : value_Of.f a0 = some (r1, r2, r3)) :
    Calls Tryd.prog 29 #[.int .u8 a0] w fun e w' => e = .returned (.agg #[.int .u8 r1, .int .i64 r2, .string r3]) ∧ Below w.heap.size w w' := by
  have hu25 := Tryd.underlying25
  have HB := Aside0.mk (Below.refl w.heap.size w)
  have H : (if a0 = 1 then (some (1, 1, (⟨#[]⟩ : ByteArray))) else (if a0 = 0 then (some (1, 0, (⟨#[]⟩ : ByteArray))) else (some (0, 0, (⟨#[]⟩ : ByteArray))))) = some (r1, r2, r3) := h
  clear h
  by_cases c2 : a0 = 1
  · rw [if_pos c2] at H
    have c2b0 : (a0 == 1) = true := beq_iff_eq.mpr c2
    have c2b1 : (a0 != 1) = false := bne_eq_false_iff_eq.mpr c2
    clear c2
    simp only [Option.some.injEq, Prod.mk.injEq] at H
    obtain ⟨rfl, rfl, rfl⟩ := H
    go_enter Tryd.func29, Tryd.ntmps29
    go_wp2_with (first | ((with_reducible refine gate_dst (N := 2) rfl ?_); refine box_event ?hg (N := 2) ?hd (cs := #[.int .u8 0, .int .i64 0, .string (⟨#[]⟩ : ByteArray)]) (t := 25) ?hr ?_; (case hd => rfl); (case hg => rfl); (case hr => first | (go_simp; done) | (go_simp; rfl)); intro gb204 hg w3 hbox hb; have n0_ := Aside0.mk (below_step (by repeat (first | (with_reducible first | exact HB.out | apply below_alloc | apply pw_below_drewN | apply below_drew1) | exact HB.out)) hb); have n1_ := Aside0.mk (hbox); have n2_ := Aside0.mk ((by rw [hg]; exact (below_size (by repeat (first | (with_reducible first | exact HB.out | apply below_alloc | apply pw_below_drewN | apply below_drew1) | exact HB.out))) : w.heap.size ≤ gb204)); have n3_ := Aside0.mk ((by rw [hg]; exact (below_size (by repeat (first | (with_reducible first | exact HB.out | apply below_alloc | apply pw_below_drewN | apply below_drew1) | exact HB.out))) : w.heap.size ≤ gb204)); clear HB; have HB := n0_; have BK204 := n1_; have GW204 := n2_; have GE204 := n3_; clear n0_ n1_ n2_ n3_; clear hb hbox hg; have hcz4_0 : w3.cell? ⟨gb204, 0, none⟩ = some (.int .u8 0) := (blk_cell BK204.out 0).trans rfl; have hcz4_1 : w3.cell? ⟨gb204, 1, none⟩ = some (.int .i64 0) := (blk_cell BK204.out 1).trans rfl; have hcz4_2 : w3.cell? ⟨gb204, 2, none⟩ = some (.string (⟨#[]⟩ : ByteArray)) := (blk_cell BK204.out 2).trans rfl; have hfz4_0 := blk_frozen BK204.out 0; have hfz4_1 := blk_frozen BK204.out 1; have hfz4_2 := blk_frozen BK204.out 2))
    refine bodyPost_ret (results_cell_row rfl _ _ gb204 25 #[.int .u8 1, .int .i64 1, .string (⟨#[]⟩ : ByteArray)] (0, 0) _ rfl (by (with_reducible repeat (first | refine blk_drewN ?_ _ | refine blk_drew ?_ | refine blk_alloc ?_ _)); refine blk_put (cs := #[.int .u8 1, .int .i64 1, .string (⟨#[]⟩ : ByteArray)]) ?_ 2 _ rfl; (with_reducible repeat (first | refine blk_drewN ?_ _ | refine blk_drew ?_ | refine blk_alloc ?_ _)); refine blk_put (cs := #[.int .u8 1, .int .i64 0, .string (⟨#[]⟩ : ByteArray)]) ?_ 1 _ rfl; (with_reducible repeat (first | refine blk_drewN ?_ _ | refine blk_drew ?_ | refine blk_alloc ?_ _)); refine blk_put (cs := #[.int .u8 0, .int .i64 0, .string (⟨#[]⟩ : ByteArray)]) ?_ 0 _ rfl; (with_reducible repeat (first | refine blk_drewN ?_ _ | refine blk_drew ?_ | refine blk_alloc ?_ _)); exact BK204.out) Tryd.underlying25 rfl (by kernel_rfl)) rfl ?_
    exact ⟨by first | rfl | (simp [errW_none, errW_some] <;> rfl) | (simp [*, errW_none, errW_some] <;> rfl), by repeat (first | (with_reducible first | exact HB.out | apply below_alloc | apply pw_below_drewN | apply below_drew1 | refine below_set ?_ GE204.out) | exact HB.out)⟩
  · rw [if_neg c2] at H
    have c2b0 : (a0 == 1) = false := beq_eq_false_iff_ne.mpr c2
    have c2b1 : (a0 != 1) = true := bne_iff_ne.mpr c2
    by_cases c5 : a0 = 0
    · rw [if_pos c5] at H
      have c5b0 : (a0 == 0) = true := beq_iff_eq.mpr c5
      have c5b1 : (a0 != 0) = false := bne_eq_false_iff_eq.mpr c5
      clear c5
      simp only [Option.some.injEq, Prod.mk.injEq] at H
      obtain ⟨rfl, rfl, rfl⟩ := H
      go_enter Tryd.func29, Tryd.ntmps29
      go_wp2_with (first | ((with_reducible refine gate_dst (N := 2) rfl ?_); refine box_event ?hg (N := 2) ?hd (cs := #[.int .u8 0, .int .i64 0, .string (⟨#[]⟩ : ByteArray)]) (t := 25) ?hr ?_; (case hd => rfl); (case hg => rfl); (case hr => first | (go_simp; done) | (go_simp; rfl)); intro gb204 hg w6 hbox hb; have n0_ := Aside0.mk (below_step (by repeat (first | (with_reducible first | exact HB.out | apply below_alloc | apply pw_below_drewN | apply below_drew1) | exact HB.out)) hb); have n1_ := Aside0.mk (hbox); have n2_ := Aside0.mk ((by rw [hg]; exact (below_size (by repeat (first | (with_reducible first | exact HB.out | apply below_alloc | apply pw_below_drewN | apply below_drew1) | exact HB.out))) : w.heap.size ≤ gb204)); have n3_ := Aside0.mk ((by rw [hg]; exact (below_size (by repeat (first | (with_reducible first | exact HB.out | apply below_alloc | apply pw_below_drewN | apply below_drew1) | exact HB.out))) : w.heap.size ≤ gb204)); clear HB; have HB := n0_; have BK204 := n1_; have GW204 := n2_; have GE204 := n3_; clear n0_ n1_ n2_ n3_; clear hb hbox hg; have hcz7_0 : w6.cell? ⟨gb204, 0, none⟩ = some (.int .u8 0) := (blk_cell BK204.out 0).trans rfl; have hcz7_1 : w6.cell? ⟨gb204, 1, none⟩ = some (.int .i64 0) := (blk_cell BK204.out 1).trans rfl; have hcz7_2 : w6.cell? ⟨gb204, 2, none⟩ = some (.string (⟨#[]⟩ : ByteArray)) := (blk_cell BK204.out 2).trans rfl; have hfz7_0 := blk_frozen BK204.out 0; have hfz7_1 := blk_frozen BK204.out 1; have hfz7_2 := blk_frozen BK204.out 2))
      refine bodyPost_ret (results_cell_row rfl _ _ gb204 25 #[.int .u8 1, .int .i64 0, .string (⟨#[]⟩ : ByteArray)] (0, 0) _ rfl (by (with_reducible repeat (first | refine blk_drewN ?_ _ | refine blk_drew ?_ | refine blk_alloc ?_ _)); refine blk_put (cs := #[.int .u8 1, .int .i64 0, .string (⟨#[]⟩ : ByteArray)]) ?_ 2 _ rfl; (with_reducible repeat (first | refine blk_drewN ?_ _ | refine blk_drew ?_ | refine blk_alloc ?_ _)); refine blk_put (cs := #[.int .u8 1, .int .i64 0, .string (⟨#[]⟩ : ByteArray)]) ?_ 1 _ rfl; (with_reducible repeat (first | refine blk_drewN ?_ _ | refine blk_drew ?_ | refine blk_alloc ?_ _)); refine blk_put (cs := #[.int .u8 0, .int .i64 0, .string (⟨#[]⟩ : ByteArray)]) ?_ 0 _ rfl; (with_reducible repeat (first | refine blk_drewN ?_ _ | refine blk_drew ?_ | refine blk_alloc ?_ _)); exact BK204.out) Tryd.underlying25 rfl (by kernel_rfl)) rfl ?_
      exact ⟨by first | rfl | (simp [errW_none, errW_some] <;> rfl) | (simp [*, errW_none, errW_some] <;> rfl), by repeat (first | (with_reducible first | exact HB.out | apply below_alloc | apply pw_below_drewN | apply below_drew1 | refine below_set ?_ GE204.out) | exact HB.out)⟩
    · rw [if_neg c5] at H
      have c5b0 : (a0 == 0) = false := beq_eq_false_iff_ne.mpr c5
      have c5b1 : (a0 != 0) = true := bne_iff_ne.mpr c5
      simp only [Option.some.injEq, Prod.mk.injEq] at H
      obtain ⟨rfl, rfl, rfl⟩ := H
      go_enter Tryd.func29, Tryd.ntmps29
      go_wp2_with (first | ((with_reducible refine gate_dst (N := 2) rfl ?_); refine box_event ?hg (N := 2) ?hd (cs := #[.int .u8 0, .int .i64 0, .string (⟨#[]⟩ : ByteArray)]) (t := 25) ?hr ?_; (case hd => rfl); (case hg => rfl); (case hr => first | (go_simp; done) | (go_simp; rfl)); intro gb204 hg w8 hbox hb; have n0_ := Aside0.mk (below_step (by repeat (first | (with_reducible first | exact HB.out | apply below_alloc | apply pw_below_drewN | apply below_drew1) | exact HB.out)) hb); have n1_ := Aside0.mk (hbox); have n2_ := Aside0.mk ((by rw [hg]; exact (below_size (by repeat (first | (with_reducible first | exact HB.out | apply below_alloc | apply pw_below_drewN | apply below_drew1) | exact HB.out))) : w.heap.size ≤ gb204)); have n3_ := Aside0.mk ((by rw [hg]; exact (below_size (by repeat (first | (with_reducible first | exact HB.out | apply below_alloc | apply pw_below_drewN | apply below_drew1) | exact HB.out))) : w.heap.size ≤ gb204)); clear HB; have HB := n0_; have BK204 := n1_; have GW204 := n2_; have GE204 := n3_; clear n0_ n1_ n2_ n3_; clear hb hbox hg; have hcz9_0 : w8.cell? ⟨gb204, 0, none⟩ = some (.int .u8 0) := (blk_cell BK204.out 0).trans rfl; have hcz9_1 : w8.cell? ⟨gb204, 1, none⟩ = some (.int .i64 0) := (blk_cell BK204.out 1).trans rfl; have hcz9_2 : w8.cell? ⟨gb204, 2, none⟩ = some (.string (⟨#[]⟩ : ByteArray)) := (blk_cell BK204.out 2).trans rfl; have hfz9_0 := blk_frozen BK204.out 0; have hfz9_1 := blk_frozen BK204.out 1; have hfz9_2 := blk_frozen BK204.out 2))
      refine bodyPost_ret (results_cell_row rfl _ _ gb204 25 #[.int .u8 0, .int .i64 0, .string (⟨#[]⟩ : ByteArray)] (0, 0) _ rfl (by (with_reducible repeat (first | refine blk_drewN ?_ _ | refine blk_drew ?_ | refine blk_alloc ?_ _)); refine blk_put (cs := #[.int .u8 0, .int .i64 0, .string (⟨#[]⟩ : ByteArray)]) ?_ 2 _ rfl; (with_reducible repeat (first | refine blk_drewN ?_ _ | refine blk_drew ?_ | refine blk_alloc ?_ _)); refine blk_put (cs := #[.int .u8 0, .int .i64 0, .string (⟨#[]⟩ : ByteArray)]) ?_ 1 _ rfl; (with_reducible repeat (first | refine blk_drewN ?_ _ | refine blk_drew ?_ | refine blk_alloc ?_ _)); refine blk_put (cs := #[.int .u8 0, .int .i64 0, .string (⟨#[]⟩ : ByteArray)]) ?_ 0 _ rfl; (with_reducible repeat (first | refine blk_drewN ?_ _ | refine blk_drew ?_ | refine blk_alloc ?_ _)); exact BK204.out) Tryd.underlying25 rfl (by kernel_rfl)) rfl ?_
      exact ⟨by first | rfl | (simp [errW_none, errW_some] <;> rfl) | (simp [*, errW_none, errW_some] <;> rfl), by repeat (first | (with_reducible first | exact HB.out | apply below_alloc | apply pw_below_drewN | apply below_drew1 | refine below_set ?_ GE204.out) | exact HB.out)⟩

end Go.Proofs.YtbodlnoipkommaaDoor.Q
/- value's functions in plain Lean: what each printed function answers. -/
namespace Go.Proofs.YtbodlnoipkommaaDoor.Pa
open Go.RowKit Go.Proofs.YtbodlnoipkommaaDoor.Q Go.Proofs.YtbodlnoipkommaaDoor.We Go.Proofs.YtbodlnoipkommaaDoor.Wf Go.Proofs.YtbodlnoipkommaaDoor.Wg Go.Proofs.YtbodlnoipkommaaDoor.Wh Go.Proofs.YtbodlnoipkommaaDoor.Wj Go.Proofs.YtbodlnoipkommaaDoor.Wk Go.Proofs.YtbodlnoipkommaaDoor.Wo Go.Proofs.YtbodlnoipkommaaDoor.Wp Go.Proofs.YtbodlnoipkommaaDoor.Wq Go.Proofs.YtbodlnoipkommaaDoor.Ws Go.Proofs.YtbodlnoipkommaaDoor.Wt Go.Proofs.YtbodlnoipkommaaDoorW.PrintWords Go.Proofs.YtbodlnoipkommaaDoorW.PrintLast Go.Proofs.YtbodlnoipkommaaDoorW.PrintMore
/-! ### The order -/
def cmpI (x y : Int) : Int := if x < y then -1 else if x > y then 1 else 0
theorem cmp64_f (x y : Int) : cmp_Compare_int64.f x y = some (cmpI x y) := by
  unfold cmp_Compare_int64.f cmpI
  have h : ∀ z, cmp_isNaN_int64.f z = some false := fun z => by unfold cmp_isNaN_int64.f; simp
  rw [h, h]
  simp only [Option.bind_some, Bool.false_eq_true, if_false]
  split
  · rfl
  · split <;> rfl
theorem cmpK_f (x y : Int) : api_Kind_47.f x y = some (cmpI x y) := by
  unfold api_Kind_47.f cmpI
  have h : ∀ z, api_Kind_77.f z = some false := fun z => by unfold api_Kind_77.f; simp
  rw [h, h]
  simp only [Option.bind_some, Bool.false_eq_true, if_false]
  split
  · rfl
  · split <;> rfl
def cmpS (s t : ByteArray) : Int := Lib.compareBytes s.data.toList t.data.toList
def orderR (k0 n0 : Int) (s0 : ByteArray) (k1 n1 : Int) (s1 : ByteArray) : Int :=
  if cmpI k0 k1 = 0 then (if cmpI n0 n1 = 0 then cmpS s0 s1 else cmpI n0 n1) else cmpI k0 k1
theorem order_f (k0 n0 : Int) (s0 : ByteArray) (k1 n1 : Int) (s1 : ByteArray) : value_Order.f k0 n0 s0 k1 n1 s1 = some (orderR k0 n0 s0 k1 n1 s1) := by
  unfold value_Order.f orderR
  rw [cmpK_f, cmp64_f]
  simp only [Option.bind_some]
  split
  · split
    · rfl
    · rfl
  · rfl
theorem cmpI_zero {x y : Int} : cmpI x y = 0 ↔ x = y := by unfold cmpI; split <;> (try split) <;> omega
theorem cmpI_lt {x y : Int} : cmpI x y < 0 ↔ x < y := by unfold cmpI; split <;> (try split) <;> omega
theorem cmpI_gt {x y : Int} : cmpI x y > 0 ↔ x > y := by unfold cmpI; split <;> (try split) <;> omega
theorem cmpI_neg (x y : Int) : cmpI y x = - cmpI x y := by unfold cmpI; split <;> split <;> (try split) <;> (try split) <;> omega
theorem cmpI_range (x y : Int) : cmpI x y = -1 ∨ cmpI x y = 0 ∨ cmpI x y = 1 := by unfold cmpI; split <;> (try split) <;> omega
theorem cb_range : ∀ a b : List UInt8, Lib.compareBytes a b = -1 ∨ Lib.compareBytes a b = 0 ∨ Lib.compareBytes a b = 1
  | [], [] => Or.inr (Or.inl rfl)
  | [], _ :: _ => Or.inl rfl
  | _ :: _, [] => Or.inr (Or.inr rfl)
  | a :: xs, b :: ys => by
    unfold Lib.compareBytes
    split
    · exact Or.inl rfl
    · split
      · exact Or.inr (Or.inr rfl)
      · exact cb_range xs ys
theorem cb_neg : ∀ a b : List UInt8, Lib.compareBytes b a = - Lib.compareBytes a b
  | [], [] => rfl
  | [], _ :: _ => rfl
  | _ :: _, [] => rfl
  | a :: xs, b :: ys => by
    have ih := cb_neg xs ys
    unfold Lib.compareBytes
    by_cases h : a < b
    · have h' : ¬ b < a := fun c => by have := UInt8.lt_iff_toNat_lt.1 h; have := UInt8.lt_iff_toNat_lt.1 c; omega
      rw [if_neg h', if_pos h, if_pos h]; rfl
    · rw [if_neg h, if_neg h]
      by_cases h' : b < a
      · rw [if_pos h', if_pos h']
      · rw [if_neg h', if_neg h', ih]
theorem cb_zero : ∀ a b : List UInt8, Lib.compareBytes a b = 0 → a = b
  | [], [], _ => rfl
  | [], _ :: _, h => by cases h
  | _ :: _, [], h => by cases h
  | a :: xs, b :: ys, h => by
    unfold Lib.compareBytes at h
    by_cases h1 : a < b
    · rw [if_pos h1] at h; cases h
    · rw [if_neg h1] at h
      by_cases h2 : b < a
      · rw [if_pos h2] at h; cases h
      · rw [if_neg h2] at h
        have : a = b := UInt8.toNat_inj.1 (by
          rw [UInt8.lt_iff_toNat_lt] at h1 h2
          omega)
        rw [this, cb_zero xs ys h]
theorem cb_self : ∀ a : List UInt8, Lib.compareBytes a a = 0
  | [] => rfl
  | a :: xs => by
    unfold Lib.compareBytes
    have h : ¬ a < a := fun c => by have := UInt8.lt_iff_toNat_lt.1 c; omega
    rw [if_neg h, if_neg h]; exact cb_self xs
theorem cb_trans : ∀ a b c : List UInt8, Lib.compareBytes a b ≤ 0 → Lib.compareBytes b c ≤ 0 → Lib.compareBytes a c ≤ 0 ∧ ((Lib.compareBytes a b < 0 ∨ Lib.compareBytes b c < 0) → Lib.compareBytes a c < 0)
  | [], [], c, _, h2 => ⟨h2, fun h => h.elim (fun h => by cases h) id⟩
  | [], b :: ys, [], _, h2 => absurd (show (1 : Int) ≤ 0 from h2) (by decide)
  | [], _ :: _, _ :: _, _, _ => ⟨(by decide : (-1 : Int) ≤ 0), fun _ => (by decide : (-1 : Int) < 0)⟩
  | _ :: _, [], _, h1, _ => absurd (show (1 : Int) ≤ 0 from h1) (by decide)
  | _ :: _, _ :: _, [], _, h2 => absurd (show (1 : Int) ≤ 0 from h2) (by decide)
  | a :: xs, b :: ys, c :: zs, h1, h2 => by
    have ih := cb_trans xs ys zs
    unfold Lib.compareBytes at h1 h2 ⊢
    simp only [UInt8.lt_iff_toNat_lt] at h1 h2 ⊢
    by_cases p : a.toNat < b.toNat
    · by_cases q : b.toNat < c.toNat
      · rw [if_pos (show a.toNat < c.toNat by omega)]; exact ⟨by decide, fun _ => by decide⟩
      · rw [if_neg q] at h2
        by_cases q' : c.toNat < b.toNat
        · rw [if_pos q'] at h2; exact absurd h2 (by decide)
        · rw [if_pos (show a.toNat < c.toNat by omega)]; exact ⟨by decide, fun _ => by decide⟩
    · rw [if_neg p] at h1
      rw [if_neg p]
      by_cases p' : b.toNat < a.toNat
      · rw [if_pos p'] at h1; exact absurd h1 (by decide)
      · rw [if_neg p'] at h1
        rw [if_neg p']
        by_cases q : b.toNat < c.toNat
        · rw [if_pos (show a.toNat < c.toNat by omega)]; exact ⟨by decide, fun _ => by decide⟩
        · rw [if_neg q] at h2
          rw [if_neg q]
          by_cases q' : c.toNat < b.toNat
          · rw [if_pos q'] at h2; exact absurd h2 (by decide)
          · rw [if_neg q'] at h2
            rw [if_neg q', if_neg (show ¬ a.toNat < c.toNat by omega), if_neg (show ¬ c.toNat < a.toNat by omega)]
            exact ih h1 h2
theorem cmpS_zero {s t : ByteArray} : cmpS s t = 0 ↔ s = t := by
  constructor
  · intro h
    have := cb_zero _ _ h
    cases s; cases t
    congr
    exact Array.toList_inj.1 this
  · rintro rfl; exact cb_self _
theorem order_range (k0 n0 : Int) (s0 : ByteArray) (k1 n1 : Int) (s1 : ByteArray) : orderR k0 n0 s0 k1 n1 s1 = -1 ∨ orderR k0 n0 s0 k1 n1 s1 = 0 ∨ orderR k0 n0 s0 k1 n1 s1 = 1 := by
  unfold orderR
  split
  · split
    · exact cb_range _ _
    · exact cmpI_range _ _
  · exact cmpI_range _ _
theorem order_neg (k0 n0 : Int) (s0 : ByteArray) (k1 n1 : Int) (s1 : ByteArray) : orderR k1 n1 s1 k0 n0 s0 = - orderR k0 n0 s0 k1 n1 s1 := by
  unfold orderR
  rw [cmpI_neg k0 k1, cmpI_neg n0 n1, show cmpS s1 s0 = - cmpS s0 s1 from cb_neg _ _]
  by_cases h : cmpI k0 k1 = 0
  · rw [if_pos h, if_pos (by omega)]
    by_cases h' : cmpI n0 n1 = 0
    · rw [if_pos h', if_pos (by omega)]
    · rw [if_neg h', if_neg (by omega)]
  · rw [if_neg h, if_neg (by omega)]
theorem order_zero {k0 n0 : Int} {s0 : ByteArray} {k1 n1 : Int} {s1 : ByteArray} : orderR k0 n0 s0 k1 n1 s1 = 0 ↔ k0 = k1 ∧ n0 = n1 ∧ s0 = s1 := by
  unfold orderR
  by_cases h : cmpI k0 k1 = 0
  · rw [if_pos h]
    by_cases h' : cmpI n0 n1 = 0
    · rw [if_pos h', cmpS_zero]; exact ⟨fun e => ⟨cmpI_zero.1 h, cmpI_zero.1 h', e⟩, fun e => e.2.2⟩
    · rw [if_neg h']; exact ⟨fun e => absurd e h', fun e => absurd (cmpI_zero.2 e.2.1) h'⟩
  · rw [if_neg h]; exact ⟨fun e => absurd e h, fun e => absurd (cmpI_zero.2 e.1) h⟩
theorem order_trans (k0 n0 : Int) (s0 : ByteArray) (k1 n1 : Int) (s1 : ByteArray) (k2 n2 : Int) (s2 : ByteArray)
    (h1 : orderR k0 n0 s0 k1 n1 s1 ≤ 0) (h2 : orderR k1 n1 s1 k2 n2 s2 ≤ 0) :
    orderR k0 n0 s0 k2 n2 s2 ≤ 0 ∧ ((orderR k0 n0 s0 k1 n1 s1 < 0 ∨ orderR k1 n1 s1 k2 n2 s2 < 0) → orderR k0 n0 s0 k2 n2 s2 < 0) := by
  have hc := cb_trans s0.data.toList s1.data.toList s2.data.toList
  unfold orderR at *
  unfold cmpS at *
  generalize Lib.compareBytes s0.data.toList s1.data.toList = c01 at *
  generalize Lib.compareBytes s1.data.toList s2.data.toList = c12 at *
  generalize Lib.compareBytes s0.data.toList s2.data.toList = c02 at *
  unfold cmpI at *
  by_cases a : k0 < k1 <;> by_cases b : k0 > k1 <;> by_cases c : k1 < k2 <;> by_cases d : k1 > k2 <;> first
    | omega
    | (by_cases e : n0 < n1 <;> by_cases f : n0 > n1 <;> by_cases g : n1 < n2 <;> by_cases i : n1 > n2 <;> first
        | omega
        | (simp only [a, b, c, d, e, f, g, i, show ¬ (k0 < k2) by omega, show ¬ (k0 > k2) by omega, show ¬ (n0 < n2) by omega, show ¬ (n0 > n2) by omega, if_true, if_false, show ¬ ((-1 : Int) = 0) by decide, show ¬ ((1 : Int) = 0) by decide] at *; first | exact hc h1 h2 | omega)
        | (simp only [a, b, c, d, e, f, g, i, show ¬ (k0 < k2) by omega, show ¬ (k0 > k2) by omega, show (n0 < n2) by omega, if_true, if_false, show ¬ ((-1 : Int) = 0) by decide, show ¬ ((1 : Int) = 0) by decide] at *; omega))
    | (simp only [a, b, c, d, show (k0 < k2) by omega, if_true, if_false, show ¬ ((-1 : Int) = 0) by decide, show ¬ ((1 : Int) = 0) by decide] at *; omega)
end Go.Proofs.YtbodlnoipkommaaDoor.Pa
/- value's functions in plain Lean: Compare, Add, Sub, Mul, Neg, As, Truth, Of. -/
namespace Go.Proofs.YtbodlnoipkommaaDoor.Pb
open Go.RowKit Go.Proofs.YtbodlnoipkommaaDoor.Q Go.Proofs.YtbodlnoipkommaaDoor.We Go.Proofs.YtbodlnoipkommaaDoor.Wf Go.Proofs.YtbodlnoipkommaaDoor.Wg Go.Proofs.YtbodlnoipkommaaDoor.Wh Go.Proofs.YtbodlnoipkommaaDoor.Wj Go.Proofs.YtbodlnoipkommaaDoor.Wk Go.Proofs.YtbodlnoipkommaaDoor.Wo Go.Proofs.YtbodlnoipkommaaDoor.Wp Go.Proofs.YtbodlnoipkommaaDoor.Wq Go.Proofs.YtbodlnoipkommaaDoor.Ws Go.Proofs.YtbodlnoipkommaaDoor.Wt Go.Proofs.YtbodlnoipkommaaDoor.Pa Go.Proofs.YtbodlnoipkommaaDoorW.PrintWords Go.Proofs.YtbodlnoipkommaaDoorW.PrintLast Go.Proofs.YtbodlnoipkommaaDoorW.PrintMore
def boolT (b : Bool) : Int := bif b then 1 else 0
def cmpop (op c : Int) : Bool :=
  bif op == 7 then c == 0 else bif op == 8 then c != 0 else bif op == 9 then decide (c < 0) else bif op == 10 then decide (c ≤ 0) else bif op == 11 then decide (c > 0) else bif op == 12 then decide (c ≥ 0) else false
/-- A number in ten thousandths. -/
def fixV (k n : Int) : Int := if k = 2 then n * 10000 else n
def sgn (d : Int) : Int := if d < 0 then -1 else if d = 0 then 0 else 1
def compareR (op k0 n0 : Int) (s0 : ByteArray) (k1 n1 : Int) (s1 : ByteArray) : Int × Int :=
  if op < 7 ∨ op > 12 ∨ rightB k0 n0 s0 = false ∨ rightB k1 n1 s1 = false then (0, 2) else
  if k0 = 0 ∨ k1 = 0 then (2, 0) else
  if k0 = k1 then (boolT (cmpop op (orderR k0 n0 s0 k1 n1 s1)), 0) else
  if numB k0 = true ∧ numB k1 = true then (boolT (cmpop op (sgn (fixV k0 n0 - fixV k1 n1))), 0) else (0, 270)
theorem fix_range (k n : Int) (hn : I64 n) : I128 (fixV k n) ∧ I128 (-fixV k n) ∧ ∀ k' n', I64 n' → I128 (fixV k n + fixV k' n') ∧ I128 (fixV k n - fixV k' n') ∧ I128 (fixV k n + -fixV k' n') := by
  obtain ⟨h1, h2⟩ := hn
  refine ⟨?_, ?_, ?_⟩
  · unfold fixV I128; split <;> omega
  · unfold fixV I128; split <;> omega
  · intro k' n' ⟨h3, h4⟩
    refine ⟨?_, ?_, ?_⟩ <;> (unfold fixV I128; split <;> split <;> omega)
theorem fixed_fV (k n : Int) (s : ByteArray) (hn : I64 n) : value_fixed.f k n s = some (hi (fixV k n), lo (fixV k n)) := fixed_f k n s hn
theorem sgn_f (d : Int) (hd : I128 d) : (if cmpI (hi d) 0 = 0 then (if lo d = 0 then cmpI (hi d) 0 else 1) else cmpI (hi d) 0) = sgn d := by
  obtain ⟨h1, h2⟩ := hd
  unfold sgn
  by_cases hneg : d < 0
  · have h : hi d < 0 := (hi_neg d).2 hneg
    have e : cmpI (hi d) 0 = -1 := by unfold cmpI; rw [if_pos h]
    rw [e, if_neg (by decide), if_pos hneg]
  · have h : ¬ hi d < 0 := fun c => hneg ((hi_neg d).1 c)
    rw [if_neg hneg]
    by_cases hz : hi d = 0
    · have e : cmpI (hi d) 0 = 0 := cmpI_zero.2 hz
      rw [e, if_pos rfl]
      by_cases hl : lo d = 0
      · have : d = 0 := by unfold hi lo at *; omega
        rw [if_pos hl, if_pos this]
      · have : d ≠ 0 := by rintro rfl; exact hl rfl
        rw [if_neg hl, if_neg this]
    · have e : cmpI (hi d) 0 = 1 := by unfold cmpI; rw [if_neg h, if_pos (by omega)]
      have : d ≠ 0 := by rintro rfl; exact hz rfl
      rw [e, if_neg (by decide), if_neg this]
/-! ### Reckoning -/
/-- A number as a value of a kind, or ErrRange. -/
def toldR (k x : Int) : V4 := if I64 x then (k, x, ⟨#[]⟩, 0) else (0, 0, ⟨#[]⟩, 271)
theorem told_fR (x k : Int) (hx : I128 x) : value_wide_told.f (hi x) (lo x) k = some (toldR k x) := by
  rw [told_f x k hx]; unfold toldR; split <;> rfl
def addR (k0 n0 : Int) (s0 : ByteArray) (k1 n1 : Int) (s1 : ByteArray) : V4 :=
  if (askedR k0 n0 s0 k1 n1 s1).2 ≠ 0 ∨ (askedR k0 n0 s0 k1 n1 s1).1 = true then (0, 0, ⟨#[]⟩, (askedR k0 n0 s0 k1 n1 s1).2) else
  if k0 = 2 ∧ k1 = 2 then toldR 2 (n0 + n1) else toldR 3 (fixV k0 n0 + fixV k1 n1)
def subR (k0 n0 : Int) (s0 : ByteArray) (k1 n1 : Int) (s1 : ByteArray) : V4 :=
  if (askedR k0 n0 s0 k1 n1 s1).2 ≠ 0 ∨ (askedR k0 n0 s0 k1 n1 s1).1 = true then (0, 0, ⟨#[]⟩, (askedR k0 n0 s0 k1 n1 s1).2) else
  if k0 = 2 ∧ k1 = 2 then toldR 2 (n0 - n1) else toldR 3 (fixV k0 n0 - fixV k1 n1)
theorem join_add (x y k : Int) (hx : I128 x) (hy : I128 y) (hs : I128 (x + y)) : joinF idF (some (hi x, lo x)) (some (hi y, lo y)) k = some (toldR k (x + y)) := by
  unfold joinF idF
  simp only [Option.bind_some]
  rw [plus_f x y hx hy hs]
  simp only [Option.bind_some]
  exact told_fR _ _ hs
theorem join_sub (x y k : Int) (hx : I128 x) (hy : I128 y) (hy' : I128 (-y)) (hs : I128 (x - y)) : joinF value_wide_minus.f (some (hi x, lo x)) (some (hi y, lo y)) k = some (toldR k (x - y)) := by
  unfold joinF
  simp only [Option.bind_some]
  rw [minus_f y hy hy']
  simp only [Option.bind_some]
  have e : x + -y = x - y := by omega
  rw [plus_f x (-y) hx hy' (by rw [e]; exact hs)]
  simp only [Option.bind_some]
  rw [e]
  exact told_fR _ _ hs
theorem sum_range {n0 n1 : Int} (h0 : I64 n0) (h1 : I64 n1) : I128 (n0 + n1) ∧ I128 (n0 - n1) := by
  obtain ⟨a, b⟩ := h0
  obtain ⟨c, d⟩ := h1
  constructor <;> (unfold I128; omega)
theorem add_f (k0 n0 : Int) (s0 : ByteArray) (k1 n1 : Int) (s1 : ByteArray) (h0 : I64 n0) (h1 : I64 n1) : value_Add.f k0 n0 s0 k1 n1 s1 = some (addR k0 n0 s0 k1 n1 s1) := by
  unfold value_Add.f sumF addR
  by_cases ha : (askedR k0 n0 s0 k1 n1 s1).2 ≠ 0 ∨ (askedR k0 n0 s0 k1 n1 s1).1 = true
  · rw [if_pos ha, if_pos ha]
  rw [if_neg ha, if_neg ha]
  by_cases hk : k0 = 2 ∧ k1 = 2
  · rw [if_pos hk, if_pos hk, of_f n0 h0, of_f n1 h1]
    exact join_add _ _ _ (I128_of_I64 h0).1 (I128_of_I64 h1).1 (sum_range h0 h1).1
  · rw [if_neg hk, if_neg hk, fixed_fV k0 n0 s0 h0, fixed_fV k1 n1 s1 h1]
    exact join_add _ _ _ (fix_range k0 n0 h0).1 (fix_range k1 n1 h1).1 ((fix_range k0 n0 h0).2.2 k1 n1 h1).1
theorem sub_f (k0 n0 : Int) (s0 : ByteArray) (k1 n1 : Int) (s1 : ByteArray) (h0 : I64 n0) (h1 : I64 n1) : value_Sub.f k0 n0 s0 k1 n1 s1 = some (subR k0 n0 s0 k1 n1 s1) := by
  unfold value_Sub.f sumF subR
  by_cases ha : (askedR k0 n0 s0 k1 n1 s1).2 ≠ 0 ∨ (askedR k0 n0 s0 k1 n1 s1).1 = true
  · rw [if_pos ha, if_pos ha]
  rw [if_neg ha, if_neg ha]
  by_cases hk : k0 = 2 ∧ k1 = 2
  · rw [if_pos hk, if_pos hk, of_f n0 h0, of_f n1 h1]
    exact join_sub _ _ _ (I128_of_I64 h0).1 (I128_of_I64 h1).1 (I128_of_I64 h1).2 (sum_range h0 h1).2
  · rw [if_neg hk, if_neg hk, fixed_fV k0 n0 s0 h0, fixed_fV k1 n1 s1 h1]
    exact join_sub _ _ _ (fix_range k0 n0 h0).1 (fix_range k1 n1 h1).1 (fix_range k1 n1 h1).2.1 ((fix_range k0 n0 h0).2.2 k1 n1 h1).2.1
end Go.Proofs.YtbodlnoipkommaaDoor.Pb

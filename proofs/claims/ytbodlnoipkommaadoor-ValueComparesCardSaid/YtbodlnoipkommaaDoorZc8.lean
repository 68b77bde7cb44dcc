/- Merged out of this session's texts: Qxf14, Qxf43, Qxf64, Qxf65, Ph, Xc, Xd, Qxf49, Qxf50, Pe, Xa -/
import Derived.Test.YtbodlnoipkommaaDoorZc3
import Derived.Test.YtbodlnoipkommaaDoorZc6
import Derived.Test.YtbodlnoipkommaaDoorZc5
import Derived.Test.YtbodlnoipkommaaDoorZc7
import Derived.Test.YtbodlnoipkommaaDoorZc4
import Derived.Deep.RegionHeld3
import Derived.Deep.DeepCutAuto
namespace Go.Proofs.YtbodlnoipkommaaDoor.Q
open Go.RowKit Go.Proofs.YtbodlnoipkommaaDoorW.PrintWords Go.Proofs.YtbodlnoipkommaaDoorW.PrintLast Go.Proofs.YtbodlnoipkommaaDoorW.PrintMore
attribute [local go_sem] max2_int min2_int max_two min_two max_three min_three max_four min_four   -- for this text's walks alone
set_option linter.unusedVariables false
set_option linter.unusedSimpArgs false
def chanceryref17_Right.j0 : Nat → Int → Bool → Int → Int → ByteArray → Option (Bool)
  | 0, _, _, _, _, _ => none
  | k + 1, x4, x30, x276000, x276001, x276002 => if x30 = true then (some (x276002.toList == ([] : List UInt8))) else (if x4 = 4 then (if x276001 = 0 then (some (decide ((x276002.size : Int) ≤ 200))) else (some false)) else (if x4 = 5 then (if x276001 = 0 then (some (decide ((x276002.size : Int) ≤ 200))) else (some false)) else (some false)))
def chanceryref17_Right.f (k : Nat) (a0_0 : Int) (a0_1 : Int) (a0_2 : ByteArray) : Option (Bool) := if a0_0 = 0 then (if a0_1 = 0 then (some (a0_2.toList == ([] : List UInt8))) else (some false)) else (if a0_0 = 1 then (if a0_2.toList = ([] : List UInt8) then (if a0_1 = 0 then (some true) else (some (a0_1 == 1))) else (some false)) else (if a0_0 = 2 then (chanceryref17_Right.j0 k a0_0 (a0_0 == 2) a0_0 a0_1 a0_2) else (chanceryref17_Right.j0 k a0_0 (a0_0 == 3) a0_0 a0_1 a0_2)))
set_option maxHeartbeats 8000000 in
set_option maxRecDepth 100000 in
theorem chanceryref17_Right.calls (k : Nat) (a0_0 : Int) (a0_1 : Int) (a0_2 : ByteArray) (r : Bool) (w : World) (h : chanceryref17_Right.f k a0_0 a0_1 a0_2 = some r) :
    Calls Tryd.prog 14 #[.agg #[.int .u8 a0_0, .int .i64 a0_1, .string a0_2]] w fun e w' => e = .returned (.bool r) ∧ Below w.heap.size w w' := by
  have hu25 := Tryd.underlying25
  have HB := Aside0.mk (Below.refl w.heap.size w)
  have H : (if a0_0 = 0 then (if a0_1 = 0 then (some (a0_2.toList == ([] : List UInt8))) else (some false)) else (if a0_0 = 1 then (if a0_2.toList = ([] : List UInt8) then (if a0_1 = 0 then (some true) else (some (a0_1 == 1))) else (some false)) else (if a0_0 = 2 then (chanceryref17_Right.j0 k a0_0 (a0_0 == 2) a0_0 a0_1 a0_2) else (chanceryref17_Right.j0 k a0_0 (a0_0 == 3) a0_0 a0_1 a0_2)))) = some r := h
  clear h
  by_cases c2 : a0_0 = 0
  · rw [if_pos c2] at H
    have c2b0 : (a0_0 == 0) = true := beq_iff_eq.mpr c2
    have c2b1 : (a0_0 != 0) = false := bne_eq_false_iff_eq.mpr c2
    clear c2
    by_cases c3 : a0_1 = 0
    · rw [if_pos c3] at H
      have c3b0 : (a0_1 == 0) = true := beq_iff_eq.mpr c3
      have c3b1 : (a0_1 != 0) = false := bne_eq_false_iff_eq.mpr c3
      clear c3
      obtain rfl := Option.some.inj H
      go_enter Tryd.func14, Tryd.ntmps14
      go_wp2_with (first | ((with_reducible refine gate_dst (N := 1) rfl ?_); (try (refine gate_guard (by rfl) ?_; dsimp only)); refine box_event ?hg (N := 1) ?hd (cs := #[.int .u8 a0_0, .int .i64 a0_1, .string a0_2]) (t := 25) ?hr ?_; (case hd => rfl); (case hg => rfl); (case hr => first | (go_simp; done) | (go_simp; rfl)); intro gb275 hg w4 hbox hb; have n0_ := Aside0.mk (below_step (by repeat (first | (with_reducible first | exact HB.out | apply below_alloc | apply pw_below_drewN | apply below_drew1) | exact HB.out)) hb); have n1_ := Aside0.mk (hbox); have n2_ := Aside0.mk ((by rw [hg]; exact (below_size (by repeat (first | (with_reducible first | exact HB.out | apply below_alloc | apply pw_below_drewN | apply below_drew1) | exact HB.out))) : w.heap.size ≤ gb275)); have n3_ := Aside0.mk ((by rw [hg]; exact (below_size (by repeat (first | (with_reducible first | exact HB.out | apply below_alloc | apply pw_below_drewN | apply below_drew1) | exact HB.out))) : w.heap.size ≤ gb275)); clear HB; have HB := n0_; have BK275 := n1_; have GW275 := n2_; have GE275 := n3_; clear n0_ n1_ n2_ n3_; clear hb hbox hg; have hcz5_0 : w4.cell? ⟨gb275, 0, none⟩ = some (.int .u8 a0_0) := (blk_cell BK275.out 0).trans rfl; have hcz5_1 : w4.cell? ⟨gb275, 1, none⟩ = some (.int .i64 a0_1) := (blk_cell BK275.out 1).trans rfl; have hcz5_2 : w4.cell? ⟨gb275, 2, none⟩ = some (.string a0_2) := (blk_cell BK275.out 2).trans rfl; have hfz5_0 := blk_frozen BK275.out 0; have hfz5_1 := blk_frozen BK275.out 1; have hfz5_2 := blk_frozen BK275.out 2))
      go_ret
      exact ⟨by first | rfl | (simp [errW_none, errW_some] <;> rfl) | (simp [*, errW_none, errW_some] <;> rfl), by repeat (first | (with_reducible first | exact HB.out | apply below_alloc | apply pw_below_drewN | apply below_drew1 | refine below_set ?_ GE275.out) | exact HB.out)⟩
    · rw [if_neg c3] at H
      have c3b0 : (a0_1 == 0) = false := beq_eq_false_iff_ne.mpr c3
      have c3b1 : (a0_1 != 0) = true := bne_iff_ne.mpr c3
      obtain rfl := Option.some.inj H
      go_enter Tryd.func14, Tryd.ntmps14
      go_wp2_with (first | ((with_reducible refine gate_dst (N := 1) rfl ?_); (try (refine gate_guard (by rfl) ?_; dsimp only)); refine box_event ?hg (N := 1) ?hd (cs := #[.int .u8 a0_0, .int .i64 a0_1, .string a0_2]) (t := 25) ?hr ?_; (case hd => rfl); (case hg => rfl); (case hr => first | (go_simp; done) | (go_simp; rfl)); intro gb275 hg w6 hbox hb; have n0_ := Aside0.mk (below_step (by repeat (first | (with_reducible first | exact HB.out | apply below_alloc | apply pw_below_drewN | apply below_drew1) | exact HB.out)) hb); have n1_ := Aside0.mk (hbox); have n2_ := Aside0.mk ((by rw [hg]; exact (below_size (by repeat (first | (with_reducible first | exact HB.out | apply below_alloc | apply pw_below_drewN | apply below_drew1) | exact HB.out))) : w.heap.size ≤ gb275)); have n3_ := Aside0.mk ((by rw [hg]; exact (below_size (by repeat (first | (with_reducible first | exact HB.out | apply below_alloc | apply pw_below_drewN | apply below_drew1) | exact HB.out))) : w.heap.size ≤ gb275)); clear HB; have HB := n0_; have BK275 := n1_; have GW275 := n2_; have GE275 := n3_; clear n0_ n1_ n2_ n3_; clear hb hbox hg; have hcz7_0 : w6.cell? ⟨gb275, 0, none⟩ = some (.int .u8 a0_0) := (blk_cell BK275.out 0).trans rfl; have hcz7_1 : w6.cell? ⟨gb275, 1, none⟩ = some (.int .i64 a0_1) := (blk_cell BK275.out 1).trans rfl; have hcz7_2 : w6.cell? ⟨gb275, 2, none⟩ = some (.string a0_2) := (blk_cell BK275.out 2).trans rfl; have hfz7_0 := blk_frozen BK275.out 0; have hfz7_1 := blk_frozen BK275.out 1; have hfz7_2 := blk_frozen BK275.out 2))
      go_ret
      exact ⟨by first | rfl | (simp [errW_none, errW_some] <;> rfl) | (simp [*, errW_none, errW_some] <;> rfl), by repeat (first | (with_reducible first | exact HB.out | apply below_alloc | apply pw_below_drewN | apply below_drew1 | refine below_set ?_ GE275.out) | exact HB.out)⟩
  · rw [if_neg c2] at H
    have c2b0 : (a0_0 == 0) = false := beq_eq_false_iff_ne.mpr c2
    have c2b1 : (a0_0 != 0) = true := bne_iff_ne.mpr c2
    by_cases c8 : a0_0 = 1
    · rw [if_pos c8] at H
      have c8b0 : (a0_0 == 1) = true := beq_iff_eq.mpr c8
      have c8b1 : (a0_0 != 1) = false := bne_eq_false_iff_eq.mpr c8
      clear c8
      by_cases c9 : a0_2.toList = ([] : List UInt8)
      · rw [if_pos c9] at H
        have c9b0 : (a0_2.toList == ([] : List UInt8)) = true := beq_iff_eq.mpr c9
        have c9b1 : (a0_2.toList != ([] : List UInt8)) = false := bne_eq_false_iff_eq.mpr c9
        clear c9
        by_cases c10 : a0_1 = 0
        · rw [if_pos c10] at H
          have c10b0 : (a0_1 == 0) = true := beq_iff_eq.mpr c10
          have c10b1 : (a0_1 != 0) = false := bne_eq_false_iff_eq.mpr c10
          clear c10
          obtain rfl := Option.some.inj H
          go_enter Tryd.func14, Tryd.ntmps14
          go_wp2_with (first | ((with_reducible refine gate_dst (N := 1) rfl ?_); (try (refine gate_guard (by rfl) ?_; dsimp only)); refine box_event ?hg (N := 1) ?hd (cs := #[.int .u8 a0_0, .int .i64 a0_1, .string a0_2]) (t := 25) ?hr ?_; (case hd => rfl); (case hg => rfl); (case hr => first | (go_simp; done) | (go_simp; rfl)); intro gb275 hg w11 hbox hb; have n0_ := Aside0.mk (below_step (by repeat (first | (with_reducible first | exact HB.out | apply below_alloc | apply pw_below_drewN | apply below_drew1) | exact HB.out)) hb); have n1_ := Aside0.mk (hbox); have n2_ := Aside0.mk ((by rw [hg]; exact (below_size (by repeat (first | (with_reducible first | exact HB.out | apply below_alloc | apply pw_below_drewN | apply below_drew1) | exact HB.out))) : w.heap.size ≤ gb275)); have n3_ := Aside0.mk ((by rw [hg]; exact (below_size (by repeat (first | (with_reducible first | exact HB.out | apply below_alloc | apply pw_below_drewN | apply below_drew1) | exact HB.out))) : w.heap.size ≤ gb275)); clear HB; have HB := n0_; have BK275 := n1_; have GW275 := n2_; have GE275 := n3_; clear n0_ n1_ n2_ n3_; clear hb hbox hg; have hcz12_0 : w11.cell? ⟨gb275, 0, none⟩ = some (.int .u8 a0_0) := (blk_cell BK275.out 0).trans rfl; have hcz12_1 : w11.cell? ⟨gb275, 1, none⟩ = some (.int .i64 a0_1) := (blk_cell BK275.out 1).trans rfl; have hcz12_2 : w11.cell? ⟨gb275, 2, none⟩ = some (.string a0_2) := (blk_cell BK275.out 2).trans rfl; have hfz12_0 := blk_frozen BK275.out 0; have hfz12_1 := blk_frozen BK275.out 1; have hfz12_2 := blk_frozen BK275.out 2))
          go_ret
          exact ⟨by first | rfl | (simp [errW_none, errW_some] <;> rfl) | (simp [*, errW_none, errW_some] <;> rfl), by repeat (first | (with_reducible first | exact HB.out | apply below_alloc | apply pw_below_drewN | apply below_drew1 | refine below_set ?_ GE275.out) | exact HB.out)⟩
        · rw [if_neg c10] at H
          have c10b0 : (a0_1 == 0) = false := beq_eq_false_iff_ne.mpr c10
          have c10b1 : (a0_1 != 0) = true := bne_iff_ne.mpr c10
          obtain rfl := Option.some.inj H
          go_enter Tryd.func14, Tryd.ntmps14
          go_wp2_with (first | ((with_reducible refine gate_dst (N := 1) rfl ?_); (try (refine gate_guard (by rfl) ?_; dsimp only)); refine box_event ?hg (N := 1) ?hd (cs := #[.int .u8 a0_0, .int .i64 a0_1, .string a0_2]) (t := 25) ?hr ?_; (case hd => rfl); (case hg => rfl); (case hr => first | (go_simp; done) | (go_simp; rfl)); intro gb275 hg w13 hbox hb; have n0_ := Aside0.mk (below_step (by repeat (first | (with_reducible first | exact HB.out | apply below_alloc | apply pw_below_drewN | apply below_drew1) | exact HB.out)) hb); have n1_ := Aside0.mk (hbox); have n2_ := Aside0.mk ((by rw [hg]; exact (below_size (by repeat (first | (with_reducible first | exact HB.out | apply below_alloc | apply pw_below_drewN | apply below_drew1) | exact HB.out))) : w.heap.size ≤ gb275)); have n3_ := Aside0.mk ((by rw [hg]; exact (below_size (by repeat (first | (with_reducible first | exact HB.out | apply below_alloc | apply pw_below_drewN | apply below_drew1) | exact HB.out))) : w.heap.size ≤ gb275)); clear HB; have HB := n0_; have BK275 := n1_; have GW275 := n2_; have GE275 := n3_; clear n0_ n1_ n2_ n3_; clear hb hbox hg; have hcz14_0 : w13.cell? ⟨gb275, 0, none⟩ = some (.int .u8 a0_0) := (blk_cell BK275.out 0).trans rfl; have hcz14_1 : w13.cell? ⟨gb275, 1, none⟩ = some (.int .i64 a0_1) := (blk_cell BK275.out 1).trans rfl; have hcz14_2 : w13.cell? ⟨gb275, 2, none⟩ = some (.string a0_2) := (blk_cell BK275.out 2).trans rfl; have hfz14_0 := blk_frozen BK275.out 0; have hfz14_1 := blk_frozen BK275.out 1; have hfz14_2 := blk_frozen BK275.out 2))
          go_ret
          exact ⟨by first | rfl | (simp [errW_none, errW_some] <;> rfl) | (simp [*, errW_none, errW_some] <;> rfl), by repeat (first | (with_reducible first | exact HB.out | apply below_alloc | apply pw_below_drewN | apply below_drew1 | refine below_set ?_ GE275.out) | exact HB.out)⟩
      · rw [if_neg c9] at H
        have c9b0 : (a0_2.toList == ([] : List UInt8)) = false := beq_eq_false_iff_ne.mpr c9
        have c9b1 : (a0_2.toList != ([] : List UInt8)) = true := bne_iff_ne.mpr c9
        obtain rfl := Option.some.inj H
        go_enter Tryd.func14, Tryd.ntmps14
        go_wp2_with (first | ((with_reducible refine gate_dst (N := 1) rfl ?_); (try (refine gate_guard (by rfl) ?_; dsimp only)); refine box_event ?hg (N := 1) ?hd (cs := #[.int .u8 a0_0, .int .i64 a0_1, .string a0_2]) (t := 25) ?hr ?_; (case hd => rfl); (case hg => rfl); (case hr => first | (go_simp; done) | (go_simp; rfl)); intro gb275 hg w15 hbox hb; have n0_ := Aside0.mk (below_step (by repeat (first | (with_reducible first | exact HB.out | apply below_alloc | apply pw_below_drewN | apply below_drew1) | exact HB.out)) hb); have n1_ := Aside0.mk (hbox); have n2_ := Aside0.mk ((by rw [hg]; exact (below_size (by repeat (first | (with_reducible first | exact HB.out | apply below_alloc | apply pw_below_drewN | apply below_drew1) | exact HB.out))) : w.heap.size ≤ gb275)); have n3_ := Aside0.mk ((by rw [hg]; exact (below_size (by repeat (first | (with_reducible first | exact HB.out | apply below_alloc | apply pw_below_drewN | apply below_drew1) | exact HB.out))) : w.heap.size ≤ gb275)); clear HB; have HB := n0_; have BK275 := n1_; have GW275 := n2_; have GE275 := n3_; clear n0_ n1_ n2_ n3_; clear hb hbox hg; have hcz16_0 : w15.cell? ⟨gb275, 0, none⟩ = some (.int .u8 a0_0) := (blk_cell BK275.out 0).trans rfl; have hcz16_1 : w15.cell? ⟨gb275, 1, none⟩ = some (.int .i64 a0_1) := (blk_cell BK275.out 1).trans rfl; have hcz16_2 : w15.cell? ⟨gb275, 2, none⟩ = some (.string a0_2) := (blk_cell BK275.out 2).trans rfl; have hfz16_0 := blk_frozen BK275.out 0; have hfz16_1 := blk_frozen BK275.out 1; have hfz16_2 := blk_frozen BK275.out 2))
        go_ret
        exact ⟨by first | rfl | (simp [errW_none, errW_some] <;> rfl) | (simp [*, errW_none, errW_some] <;> rfl), by repeat (first | (with_reducible first | exact HB.out | apply below_alloc | apply pw_below_drewN | apply below_drew1 | refine below_set ?_ GE275.out) | exact HB.out)⟩
    · rw [if_neg c8] at H
      have c8b0 : (a0_0 == 1) = false := beq_eq_false_iff_ne.mpr c8
      have c8b1 : (a0_0 != 1) = true := bne_iff_ne.mpr c8
      have HC17 := Aside0.mk H
      clear H
      go_enter Tryd.func14, Tryd.ntmps14
      go_upto_if 30 with (first | ((with_reducible refine gate_dst (N := 1) rfl ?_); (try (refine gate_guard (by rfl) ?_; dsimp only)); refine box_event ?hg (N := 1) ?hd (cs := #[.int .u8 a0_0, .int .i64 a0_1, .string a0_2]) (t := 25) ?hr ?_; (case hd => rfl); (case hg => rfl); (case hr => first | (go_simp; done) | (go_simp; rfl)); intro gb275 hg w18 hbox hb; have n0_ := Aside0.mk (below_step (by repeat (first | (with_reducible first | exact HB.out | apply below_alloc | apply pw_below_drewN | apply below_drew1) | exact HB.out)) hb); have n1_ := Aside0.mk (hbox); have n2_ := Aside0.mk ((by rw [hg]; exact (below_size (by repeat (first | (with_reducible first | exact HB.out | apply below_alloc | apply pw_below_drewN | apply below_drew1) | exact HB.out))) : w.heap.size ≤ gb275)); have n3_ := Aside0.mk ((by rw [hg]; exact (below_size (by repeat (first | (with_reducible first | exact HB.out | apply below_alloc | apply pw_below_drewN | apply below_drew1) | exact HB.out))) : w.heap.size ≤ gb275)); clear HB; have HB := n0_; have BK275 := n1_; have GW275 := n2_; have GE275 := n3_; clear n0_ n1_ n2_ n3_; clear hb hbox hg; have hcz19_0 : w18.cell? ⟨gb275, 0, none⟩ = some (.int .u8 a0_0) := (blk_cell BK275.out 0).trans rfl; have hcz19_1 : w18.cell? ⟨gb275, 1, none⟩ = some (.int .i64 a0_1) := (blk_cell BK275.out 1).trans rfl; have hcz19_2 : w18.cell? ⟨gb275, 2, none⟩ = some (.string a0_2) := (blk_cell BK275.out 2).trans rfl; have hfz19_0 := blk_frozen BK275.out 0; have hfz19_1 := blk_frozen BK275.out 1; have hfz19_2 := blk_frozen BK275.out 2))
      (try simp only [Act.put, List.setIfInBounds_toArray, List.set_cons_zero, List.set_cons_succ])
      go_cut [30] (fun v30 wc => ∃ (kq : Nat) (x30_16 : Bool), v30 = .bool x30_16 ∧ Aside0 (chanceryref17_Right.j0 kq a0_0 x30_16 a0_0 a0_1 a0_2 = some r) ∧ Aside0 (kq ≤ k) ∧ Aside0 (wc.heap[gb275]? = some (.cells #[.int .u8 a0_0, .int .i64 a0_1, .string a0_2] 25 (0, 0))) ∧ Aside0 (Below w.heap.size w wc))
      case first =>
        have H := HC17.out
        clear HC17
        by_cases c20 : a0_0 = 2
        · rw [if_pos c20] at H
          have c20b0 : (a0_0 == 2) = true := beq_iff_eq.mpr c20
          have c20b1 : (a0_0 != 2) = false := bne_eq_false_iff_eq.mpr c20
          clear c20
          (first | rw [c20b0] | (simp only [i64_w, i32_w]; rw [c20b0]) | skip)
          have H' := Aside0.mk H
          clear H
          go_wp2
          go_meet
          case rel => exact ⟨_, ((a0_0 == 2)), (by first | rfl | (simp; done) | (simp [*]; done)), H', ⟨by first | omega | exact Nat.le_refl _⟩, ⟨by (with_reducible repeat (first | refine blk_drewN ?_ _ | refine blk_drew ?_ | refine blk_alloc ?_ _)); exact BK275.out⟩, ⟨by repeat (first | (with_reducible first | exact HB.out | apply below_alloc | apply pw_below_drewN | apply below_drew1 | refine below_set ?_ GE275.out) | exact HB.out)⟩⟩
        · rw [if_neg c20] at H
          have c20b0 : (a0_0 == 2) = false := beq_eq_false_iff_ne.mpr c20
          have c20b1 : (a0_0 != 2) = true := bne_iff_ne.mpr c20
          (first | rw [c20b0] | (simp only [i64_w, i32_w]; rw [c20b0]) | skip)
          have H' := Aside0.mk H
          clear H
          go_wp2
          go_meet
          case rel => exact ⟨_, ((a0_0 == 3)), (by first | rfl | (simp; done) | (simp [*]; done)), H', ⟨by first | omega | exact Nat.le_refl _⟩, ⟨by (with_reducible repeat (first | refine blk_drewN ?_ _ | refine blk_drew ?_ | refine blk_alloc ?_ _)); exact BK275.out⟩, ⟨by repeat (first | (with_reducible first | exact HB.out | apply below_alloc | apply pw_below_drewN | apply below_drew1 | refine below_set ?_ GE275.out) | exact HB.out)⟩⟩
      case rest =>
        clear HC17
        try clear c1
        try clear c2
        try clear c2b0
        try clear c2b1
        try clear p2
        try clear c3
        try clear c3b0
        try clear c3b1
        try clear c8
        try clear c8b0
        try clear c8b1
        try clear c9
        try clear c9b0
        try clear c9b1
        try clear c10
        try clear c10b0
        try clear c10b1
        try clear c14
        try clear c20
        try clear c20b0
        try clear c20b1
        try clear hcz12_0
        try clear hcz12_1
        try clear hcz12_2
        try clear hcz14_0
        try clear hcz14_1
        try clear hcz14_2
        try clear hcz16_0
        try clear hcz16_1
        try clear hcz16_2
        try clear hcz19_0
        try clear hcz19_1
        try clear hcz19_2
        try clear hcz5_0
        try clear hcz5_1
        try clear hcz5_2
        try clear hcz7_0
        try clear hcz7_1
        try clear hcz7_2
        try clear hfz12_0
        try clear hfz12_1
        try clear hfz12_2
        try clear hfz14_0
        try clear hfz14_1
        try clear hfz14_2
        try clear hfz16_0
        try clear hfz16_1
        try clear hfz16_2
        try clear hfz19_0
        try clear hfz19_1
        try clear hfz19_2
        try clear hfz5_0
        try clear hfz5_1
        try clear hfz5_2
        try clear hfz7_0
        try clear hfz7_1
        try clear hfz7_2
        obtain ⟨kq, x30_16, rfl, HA, HJ16, BK275, HB⟩ := hcut
        cases kq with
        | zero => exact absurd HA.out (by simp [chanceryref17_Right.j0])
        | succ kj16 =>
          have H := HA.out
          clear HA
          simp only [chanceryref17_Right.j0] at H
          by_cases c21 : x30_16 = true
          · subst c21
            have H1 : (some (a0_2.toList == ([] : List UInt8))) = some r := by rw [if_pos rfl] at H; exact H
            clear H
            have H := H1
            clear H1
            obtain rfl := Option.some.inj H
            have hcz22_0 : wc.cell? ⟨gb275, 0, none⟩ = some (.int .u8 a0_0) := (blk_cell BK275.out 0).trans rfl
            have hcz22_1 : wc.cell? ⟨gb275, 1, none⟩ = some (.int .i64 a0_1) := (blk_cell BK275.out 1).trans rfl
            have hcz22_2 : wc.cell? ⟨gb275, 2, none⟩ = some (.string a0_2) := (blk_cell BK275.out 2).trans rfl
            have hfz22_0 := blk_frozen BK275.out 0
            have hfz22_1 := blk_frozen BK275.out 1
            have hfz22_2 := blk_frozen BK275.out 2
            go_wp2
            go_ret
            exact ⟨by first | rfl | (simp [errW_none, errW_some] <;> rfl) | (simp [*, errW_none, errW_some] <;> rfl), by repeat (first | (with_reducible first | exact HB.out | apply below_alloc | apply pw_below_drewN | apply below_drew1 | refine below_set ?_ GE275.out) | exact HB.out)⟩
          · replace c21 := Bool.eq_false_iff.mpr c21
            subst c21
            have H1 : (if a0_0 = 4 then (if a0_1 = 0 then (some (decide ((a0_2.size : Int) ≤ 200))) else (some false)) else (if a0_0 = 5 then (if a0_1 = 0 then (some (decide ((a0_2.size : Int) ≤ 200))) else (some false)) else (some false))) = some r := by rw [if_neg (show ¬ (false = true) by decide)] at H; exact H
            clear H
            have H := H1
            clear H1
            by_cases c23 : a0_0 = 4
            · rw [if_pos c23] at H
              have c23b0 : (a0_0 == 4) = true := beq_iff_eq.mpr c23
              have c23b1 : (a0_0 != 4) = false := bne_eq_false_iff_eq.mpr c23
              clear c23
              by_cases c24 : a0_1 = 0
              · rw [if_pos c24] at H
                have c24b0 : (a0_1 == 0) = true := beq_iff_eq.mpr c24
                have c24b1 : (a0_1 != 0) = false := bne_eq_false_iff_eq.mpr c24
                clear c24
                obtain rfl := Option.some.inj H
                have hcz25_0 : wc.cell? ⟨gb275, 0, none⟩ = some (.int .u8 a0_0) := (blk_cell BK275.out 0).trans rfl
                have hcz25_1 : wc.cell? ⟨gb275, 1, none⟩ = some (.int .i64 a0_1) := (blk_cell BK275.out 1).trans rfl
                have hcz25_2 : wc.cell? ⟨gb275, 2, none⟩ = some (.string a0_2) := (blk_cell BK275.out 2).trans rfl
                have hfz25_0 := blk_frozen BK275.out 0
                have hfz25_1 := blk_frozen BK275.out 1
                have hfz25_2 := blk_frozen BK275.out 2
                go_wp2
                go_ret
                exact ⟨by first | rfl | (simp [errW_none, errW_some] <;> rfl) | (simp [*, errW_none, errW_some] <;> rfl), by repeat (first | (with_reducible first | exact HB.out | apply below_alloc | apply pw_below_drewN | apply below_drew1 | refine below_set ?_ GE275.out) | exact HB.out)⟩
              · rw [if_neg c24] at H
                have c24b0 : (a0_1 == 0) = false := beq_eq_false_iff_ne.mpr c24
                have c24b1 : (a0_1 != 0) = true := bne_iff_ne.mpr c24
                obtain rfl := Option.some.inj H
                have hcz26_0 : wc.cell? ⟨gb275, 0, none⟩ = some (.int .u8 a0_0) := (blk_cell BK275.out 0).trans rfl
                have hcz26_1 : wc.cell? ⟨gb275, 1, none⟩ = some (.int .i64 a0_1) := (blk_cell BK275.out 1).trans rfl
                have hcz26_2 : wc.cell? ⟨gb275, 2, none⟩ = some (.string a0_2) := (blk_cell BK275.out 2).trans rfl
                have hfz26_0 := blk_frozen BK275.out 0
                have hfz26_1 := blk_frozen BK275.out 1
                have hfz26_2 := blk_frozen BK275.out 2
                go_wp2
                go_ret
                exact ⟨by first | rfl | (simp [errW_none, errW_some] <;> rfl) | (simp [*, errW_none, errW_some] <;> rfl), by repeat (first | (with_reducible first | exact HB.out | apply below_alloc | apply pw_below_drewN | apply below_drew1 | refine below_set ?_ GE275.out) | exact HB.out)⟩
            · rw [if_neg c23] at H
              have c23b0 : (a0_0 == 4) = false := beq_eq_false_iff_ne.mpr c23
              have c23b1 : (a0_0 != 4) = true := bne_iff_ne.mpr c23
              by_cases c27 : a0_0 = 5
              · rw [if_pos c27] at H
                have c27b0 : (a0_0 == 5) = true := beq_iff_eq.mpr c27
                have c27b1 : (a0_0 != 5) = false := bne_eq_false_iff_eq.mpr c27
                clear c27
                by_cases c28 : a0_1 = 0
                · rw [if_pos c28] at H
                  have c28b0 : (a0_1 == 0) = true := beq_iff_eq.mpr c28
                  have c28b1 : (a0_1 != 0) = false := bne_eq_false_iff_eq.mpr c28
                  clear c28
                  obtain rfl := Option.some.inj H
                  have hcz29_0 : wc.cell? ⟨gb275, 0, none⟩ = some (.int .u8 a0_0) := (blk_cell BK275.out 0).trans rfl
                  have hcz29_1 : wc.cell? ⟨gb275, 1, none⟩ = some (.int .i64 a0_1) := (blk_cell BK275.out 1).trans rfl
                  have hcz29_2 : wc.cell? ⟨gb275, 2, none⟩ = some (.string a0_2) := (blk_cell BK275.out 2).trans rfl
                  have hfz29_0 := blk_frozen BK275.out 0
                  have hfz29_1 := blk_frozen BK275.out 1
                  have hfz29_2 := blk_frozen BK275.out 2
                  go_wp2
                  go_ret
                  exact ⟨by first | rfl | (simp [errW_none, errW_some] <;> rfl) | (simp [*, errW_none, errW_some] <;> rfl), by repeat (first | (with_reducible first | exact HB.out | apply below_alloc | apply pw_below_drewN | apply below_drew1 | refine below_set ?_ GE275.out) | exact HB.out)⟩
                · rw [if_neg c28] at H
                  have c28b0 : (a0_1 == 0) = false := beq_eq_false_iff_ne.mpr c28
                  have c28b1 : (a0_1 != 0) = true := bne_iff_ne.mpr c28
                  obtain rfl := Option.some.inj H
                  have hcz30_0 : wc.cell? ⟨gb275, 0, none⟩ = some (.int .u8 a0_0) := (blk_cell BK275.out 0).trans rfl
                  have hcz30_1 : wc.cell? ⟨gb275, 1, none⟩ = some (.int .i64 a0_1) := (blk_cell BK275.out 1).trans rfl
                  have hcz30_2 : wc.cell? ⟨gb275, 2, none⟩ = some (.string a0_2) := (blk_cell BK275.out 2).trans rfl
                  have hfz30_0 := blk_frozen BK275.out 0
                  have hfz30_1 := blk_frozen BK275.out 1
                  have hfz30_2 := blk_frozen BK275.out 2
                  go_wp2
                  go_ret
                  exact ⟨by first | rfl | (simp [errW_none, errW_some] <;> rfl) | (simp [*, errW_none, errW_some] <;> rfl), by repeat (first | (with_reducible first | exact HB.out | apply below_alloc | apply pw_below_drewN | apply below_drew1 | refine below_set ?_ GE275.out) | exact HB.out)⟩
              · rw [if_neg c27] at H
                have c27b0 : (a0_0 == 5) = false := beq_eq_false_iff_ne.mpr c27
                have c27b1 : (a0_0 != 5) = true := bne_iff_ne.mpr c27
                obtain rfl := Option.some.inj H
                go_wp2
                go_ret
                exact ⟨by first | rfl | (simp [errW_none, errW_some] <;> rfl) | (simp [*, errW_none, errW_some] <;> rfl), by repeat (first | (with_reducible first | exact HB.out | apply below_alloc | apply pw_below_drewN | apply below_drew1 | refine below_set ?_ GE275.out) | exact HB.out)⟩
end Go.Proofs.YtbodlnoipkommaaDoor.Q
namespace Go.Proofs.YtbodlnoipkommaaDoor.Q
open Go.RowKit Go.Proofs.YtbodlnoipkommaaDoorW.PrintWords Go.Proofs.YtbodlnoipkommaaDoorW.PrintLast Go.Proofs.YtbodlnoipkommaaDoorW.PrintMore
attribute [local go_sem] max2_int min2_int max_two min_two max_three min_three max_four min_four   -- for this text's walks alone
set_option linter.unusedVariables false
set_option linter.unusedSimpArgs false
def chanceryref17_number.f (a0_0 : Int) (a0_1 : Int) (a0_2 : ByteArray) : Option (Bool) := if a0_0 = 2 then (some true) else (some (a0_0 == 3))
set_option maxHeartbeats 8000000 in
set_option maxRecDepth 100000 in
theorem chanceryref17_number.calls (a0_0 : Int) (a0_1 : Int) (a0_2 : ByteArray) (r : Bool) (w : World) (h : chanceryref17_number.f a0_0 a0_1 a0_2 = some r) :
    Calls Tryd.prog 43 #[.agg #[.int .u8 a0_0, .int .i64 a0_1, .string a0_2]] w fun e w' => e = .returned (.bool r) ∧ Below w.heap.size w w' := by
  have hu25 := Tryd.underlying25
  have HB := Aside0.mk (Below.refl w.heap.size w)
  have H : (if a0_0 = 2 then (some true) else (some (a0_0 == 3))) = some r := h
  clear h
  by_cases c2 : a0_0 = 2
  · rw [if_pos c2] at H
    have c2b0 : (a0_0 == 2) = true := beq_iff_eq.mpr c2
    have c2b1 : (a0_0 != 2) = false := bne_eq_false_iff_eq.mpr c2
    clear c2
    obtain rfl := Option.some.inj H
    go_enter Tryd.func43, Tryd.ntmps43
    go_wp2_with (first | ((with_reducible refine gate_dst (N := 1) rfl ?_); refine box_event ?hg (N := 1) ?hd (cs := #[.int .u8 a0_0, .int .i64 a0_1, .string a0_2]) (t := 25) ?hr ?_; (case hd => rfl); (case hg => rfl); (case hr => first | (go_simp; done) | (go_simp; rfl)); intro gb276 hg w3 hbox hb; have n0_ := Aside0.mk (below_step (by repeat (first | (with_reducible first | exact HB.out | apply below_alloc | apply pw_below_drewN | apply below_drew1) | exact HB.out)) hb); have n1_ := Aside0.mk (hbox); have n2_ := Aside0.mk ((by rw [hg]; exact (below_size (by repeat (first | (with_reducible first | exact HB.out | apply below_alloc | apply pw_below_drewN | apply below_drew1) | exact HB.out))) : w.heap.size ≤ gb276)); have n3_ := Aside0.mk ((by rw [hg]; exact (below_size (by repeat (first | (with_reducible first | exact HB.out | apply below_alloc | apply pw_below_drewN | apply below_drew1) | exact HB.out))) : w.heap.size ≤ gb276)); clear HB; have HB := n0_; have BK276 := n1_; have GW276 := n2_; have GE276 := n3_; clear n0_ n1_ n2_ n3_; clear hb hbox hg; have hcz4_0 : w3.cell? ⟨gb276, 0, none⟩ = some (.int .u8 a0_0) := (blk_cell BK276.out 0).trans rfl; have hcz4_1 : w3.cell? ⟨gb276, 1, none⟩ = some (.int .i64 a0_1) := (blk_cell BK276.out 1).trans rfl; have hcz4_2 : w3.cell? ⟨gb276, 2, none⟩ = some (.string a0_2) := (blk_cell BK276.out 2).trans rfl; have hfz4_0 := blk_frozen BK276.out 0; have hfz4_1 := blk_frozen BK276.out 1; have hfz4_2 := blk_frozen BK276.out 2))
    go_ret
    exact ⟨by first | rfl | (simp [errW_none, errW_some] <;> rfl) | (simp [*, errW_none, errW_some] <;> rfl), by repeat (first | (with_reducible first | exact HB.out | apply below_alloc | apply pw_below_drewN | apply below_drew1 | refine below_set ?_ GE276.out) | exact HB.out)⟩
  · rw [if_neg c2] at H
    have c2b0 : (a0_0 == 2) = false := beq_eq_false_iff_ne.mpr c2
    have c2b1 : (a0_0 != 2) = true := bne_iff_ne.mpr c2
    obtain rfl := Option.some.inj H
    go_enter Tryd.func43, Tryd.ntmps43
    go_wp2_with (first | ((with_reducible refine gate_dst (N := 1) rfl ?_); refine box_event ?hg (N := 1) ?hd (cs := #[.int .u8 a0_0, .int .i64 a0_1, .string a0_2]) (t := 25) ?hr ?_; (case hd => rfl); (case hg => rfl); (case hr => first | (go_simp; done) | (go_simp; rfl)); intro gb276 hg w5 hbox hb; have n0_ := Aside0.mk (below_step (by repeat (first | (with_reducible first | exact HB.out | apply below_alloc | apply pw_below_drewN | apply below_drew1) | exact HB.out)) hb); have n1_ := Aside0.mk (hbox); have n2_ := Aside0.mk ((by rw [hg]; exact (below_size (by repeat (first | (with_reducible first | exact HB.out | apply below_alloc | apply pw_below_drewN | apply below_drew1) | exact HB.out))) : w.heap.size ≤ gb276)); have n3_ := Aside0.mk ((by rw [hg]; exact (below_size (by repeat (first | (with_reducible first | exact HB.out | apply below_alloc | apply pw_below_drewN | apply below_drew1) | exact HB.out))) : w.heap.size ≤ gb276)); clear HB; have HB := n0_; have BK276 := n1_; have GW276 := n2_; have GE276 := n3_; clear n0_ n1_ n2_ n3_; clear hb hbox hg; have hcz6_0 : w5.cell? ⟨gb276, 0, none⟩ = some (.int .u8 a0_0) := (blk_cell BK276.out 0).trans rfl; have hcz6_1 : w5.cell? ⟨gb276, 1, none⟩ = some (.int .i64 a0_1) := (blk_cell BK276.out 1).trans rfl; have hcz6_2 : w5.cell? ⟨gb276, 2, none⟩ = some (.string a0_2) := (blk_cell BK276.out 2).trans rfl; have hfz6_0 := blk_frozen BK276.out 0; have hfz6_1 := blk_frozen BK276.out 1; have hfz6_2 := blk_frozen BK276.out 2))
    go_ret
    exact ⟨by first | rfl | (simp [errW_none, errW_some] <;> rfl) | (simp [*, errW_none, errW_some] <;> rfl), by repeat (first | (with_reducible first | exact HB.out | apply below_alloc | apply pw_below_drewN | apply below_drew1 | refine below_set ?_ GE276.out) | exact HB.out)⟩
end Go.Proofs.YtbodlnoipkommaaDoor.Q
namespace Go.Proofs.YtbodlnoipkommaaDoor.Q
open Go.RowKit Go.Proofs.YtbodlnoipkommaaDoorW.PrintWords Go.Proofs.YtbodlnoipkommaaDoorW.PrintLast Go.Proofs.YtbodlnoipkommaaDoorW.PrintMore
attribute [local go_sem] max2_int min2_int max_two min_two max_three min_three max_four min_four   -- for this text's walks alone
set_option linter.unusedVariables false
set_option linter.unusedSimpArgs false
end Go.Proofs.YtbodlnoipkommaaDoor.Q
namespace Go.Proofs.YtbodlnoipkommaaDoor.Q
open Go.Proofs.YtbodlnoipkommaaDoor.Rc
open Go.RowKit Go.Proofs.YtbodlnoipkommaaDoorW.PrintWords Go.Proofs.YtbodlnoipkommaaDoorW.PrintLast Go.Proofs.YtbodlnoipkommaaDoorW.PrintMore
attribute [local go_sem] max2_int min2_int max_two min_two max_three min_three max_four min_four   -- for this text's walks alone
set_option linter.unusedVariables false
set_option linter.unusedSimpArgs false
end Go.Proofs.YtbodlnoipkommaaDoor.Q
namespace Go.Proofs.YtbodlnoipkommaaDoor.Ph
open Go Go.RowKit Go.Proofs.YtbodlnoipkommaaDoor.Q Go.Proofs.YtbodlnoipkommaaDoor.Ra Go.Proofs.YtbodlnoipkommaaDoor.Rb Go.Proofs.YtbodlnoipkommaaDoor.Rc Go.Proofs.YtbodlnoipkommaaDoor.Rd Go.Proofs.YtbodlnoipkommaaDoor.Wh Go.Proofs.YtbodlnoipkommaaDoor.Wk Go.Proofs.YtbodlnoipkommaaDoor.Wp Go.Proofs.YtbodlnoipkommaaDoor.Pa Go.Proofs.YtbodlnoipkommaaDoor.Pb Go.Proofs.YtbodlnoipkommaaDoor.Pc Go.Proofs.YtbodlnoipkommaaDoorW.PrintWords Go.Proofs.YtbodlnoipkommaaDoorW.PrintLast Go.Proofs.YtbodlnoipkommaaDoorW.PrintMore
def B (s : Bool) (m : Int) : Bool × Int × Int × Int × Int × Int := (s, d0 m, d1 m, d2 m, d3 m, d4 m)
def Sz (m : Int) : Prop := 0 ≤ m ∧ m < 1461501637330902918203684832716283019655932542976
def vl (s : Bool) (m : Int) : Int := if s = true then -m else m
theorem digs (m : Int) : Digs (d0 m) (d1 m) (d2 m) (d3 m) (d4 m) := by
  unfold Digs Dig d0 d1 d2 d3 d4
  refine ⟨⟨?_, ?_⟩, ⟨?_, ?_⟩, ⟨?_, ?_⟩, ⟨?_, ?_⟩, ?_, ?_⟩ <;> omega
theorem num_d (m : Int) (h : Sz m) : num (d0 m) (d1 m) (d2 m) (d3 m) (d4 m) = m := by
  obtain ⟨h0, h1⟩ := h
  unfold num d0 d1 d2 d3 d4
  omega
theorem plus_fR (a b : Int) (ha : Sz a) (hb : Sz b) : chanceryref17_plus.f (d0 a) (d1 a) (d2 a) (d3 a) (d4 a) (d0 b) (d1 b) (d2 b) (d3 b) (d4 b) = some (d0 (a + b), d1 (a + b), d2 (a + b), d3 (a + b), d4 (a + b)) := by
  unfold chanceryref17_plus.f
  rw [if_pos ⟨digs a, digs b⟩, num_d a ha, num_d b hb]
theorem minus_fR (a b : Int) (ha : Sz a) (hb : Sz b) : chanceryref17_minus.f (d0 a) (d1 a) (d2 a) (d3 a) (d4 a) (d0 b) (d1 b) (d2 b) (d3 b) (d4 b) = some (d0 (a - b), d1 (a - b), d2 (a - b), d3 (a - b), d4 (a - b)) := by
  unfold chanceryref17_minus.f
  rw [if_pos ⟨digs a, digs b⟩, num_d a ha, num_d b hb]
theorem under_fR (a b : Int) (ha : Sz a) (hb : Sz b) : chanceryref17_under.f (d0 a) (d1 a) (d2 a) (d3 a) (d4 a) (d0 b) (d1 b) (d2 b) (d3 b) (d4 b) = some (decide (a < b)) := by
  unfold chanceryref17_under.f
  rw [if_pos ⟨digs a, digs b⟩, num_d a ha, num_d b hb]
theorem addB (s : Bool) (a : Int) (t : Bool) (b : Int) (ha : Sz a) (hb : Sz b) (hs : Sz (a + b)) :
    ∃ u c, chanceryref17_add.f s (d0 a) (d1 a) (d2 a) (d3 a) (d4 a) t (d0 b) (d1 b) (d2 b) (d3 b) (d4 b) = some (B u c) ∧ Sz c ∧ vl u c = vl s a + vl t b := by
  unfold chanceryref17_add.f
  by_cases h : s = t
  · subst h
    refine ⟨s, a + b, ?_, hs, ?_⟩
    · rw [if_pos (by simp), plus_fR a b ha hb]; rfl
    · unfold vl; split <;> omega
  · rw [if_neg (by simpa using h), under_fR a b ha hb]
    simp only [Option.bind_some]
    by_cases hl : a < b
    · refine ⟨t, b - a, ?_, ?_, ?_⟩
      · rw [if_pos (by simpa using hl), minus_fR b a hb ha]; rfl
      · unfold Sz at *; omega
      · unfold vl; cases s <;> cases t <;> simp at h ⊢ <;> omega
    · refine ⟨s, a - b, ?_, ?_, ?_⟩
      · rw [if_neg (by simpa using hl), minus_fR a b ha hb]; rfl
      · unfold Sz at *; omega
      · unfold vl; cases s <;> cases t <;> simp at h ⊢ <;> omega
theorem signB (s : Bool) (m : Int) (hm : Sz m) : chanceryref17_sign.f s (d0 m) (d1 m) (d2 m) (d3 m) (d4 m) = some (sgn (vl s m)) := by
  unfold chanceryref17_sign.f
  have hn := num_d m hm
  obtain ⟨h0, h1⟩ := hm
  congr 1
  by_cases h : m = 0
  · subst h; cases s <;> decide
  · have hz : ¬ (d0 m = 0 ∧ d1 m = 0 ∧ d2 m = 0 ∧ d3 m = 0 ∧ d4 m = 0) := by
      rintro ⟨e0, e1, e2, e3, e4⟩
      rw [e0, e1, e2, e3, e4] at hn
      apply h; rw [← hn]; rfl
    rw [if_neg hz]
    unfold sgn vl
    cases s
    · simp only [Bool.false_eq_true, if_false]
      rw [if_neg (by omega), if_neg h]
    · simp only [if_true]
      rw [if_pos (by omega)]
theorem bigB (n : Int) (h : I64 n) : chanceryref17_big.f n = some (B (decide (n < 0)) (absI n)) := by
  obtain ⟨h0, h1⟩ := h
  unfold chanceryref17_big.f
  have e : (n.natAbs : Int) = absI n := by unfold absI; omega
  rw [if_pos ⟨h0, by omega⟩, e]; rfl
theorem timesB (s : Bool) (a : Int) (t : Bool) (b : Int) (ha : 0 ≤ a ∧ a < 18446744073709551616) (hb : 0 ≤ b ∧ b < 18446744073709551616) :
    chanceryref17_times.f s (d0 a) (d1 a) (d2 a) (d3 a) (d4 a) t (d0 b) (d1 b) (d2 b) (d3 b) (d4 b) = some (B (s != t) (a * b)) := by
  unfold chanceryref17_times.f
  have z : ∀ x : Int, 0 ≤ x ∧ x < 18446744073709551616 → d2 x = 0 ∧ d3 x = 0 ∧ d4 x = 0 := by
    intro x hx
    unfold d2 d3 d4
    omega
  rw [if_pos ⟨digs a, digs b, z a ha, z b hb⟩, num_d a ⟨ha.1, by omega⟩, num_d b ⟨hb.1, by omega⟩]; rfl
theorem abs64 (n : Int) (h : I64 n) : 0 ≤ absI n ∧ absI n ≤ 9223372036854775808 := by
  obtain ⟨h0, h1⟩ := h
  unfold absI; split <;> omega
theorem vl_abs (z : Int) : vl (decide (z < 0)) (absI z) = z := by
  unfold vl absI
  by_cases h : z < 0
  · rw [if_pos (by simpa using h), if_pos h]; omega
  · rw [if_neg (by simpa using h), if_neg h]
theorem fixedB (k n : Int) (s : ByteArray) (h : I64 n) : chanceryref17_fixed.f k n s = some (B (decide (fixV k n < 0)) (absI (fixV k n))) := by
  unfold chanceryref17_fixed.f fixV
  rw [bigB n h, bigB 10000 (by decide)]
  by_cases hk : k = 2
  · rw [if_pos hk, if_pos hk]
    simp only [Option.bind_some, B]
    have h4 := abs64 n h
    rw [timesB _ _ _ _ ⟨h4.1, by omega⟩ (by decide)]
    simp only [Option.bind_some, B]
    have e : absI n * absI 10000 = absI (n * 10000) := by
      rw [show absI 10000 = 10000 from rfl]; unfold absI; split <;> split <;> omega
    have e' : (decide (n < 0) != decide ((10000 : Int) < 0)) = decide (n * 10000 < 0) := by
      rw [show decide ((10000 : Int) < 0) = false from rfl, show ∀ x : Bool, (x != false) = x by decide]
      apply decide_eq_decide.2; omega
    rw [e, e']
  · rw [if_neg hk, if_neg hk]
    simp only [Option.bind_some, B]
theorem fix_abs (k n : Int) (h : I64 n) : 0 ≤ absI (fixV k n) ∧ absI (fixV k n) ≤ 92233720368547758080000 := by
  obtain ⟨h0, h1⟩ := h
  unfold absI fixV; split <;> split <;> omega
theorem ref_right (j : Nat) (k n : Int) (s : ByteArray) : chanceryref17_Right.f (j + 1) k n s = some (rightB k n s) := by
  unfold chanceryref17_Right.f rightB
  by_cases h0 : k = 0
  · by_cases hn : n = 0 <;> simp [h0, hn]
  by_cases h1 : k = 1
  · by_cases hs : s.toList = ([] : List UInt8)
    · have e : (n / 2 = 0) ↔ (n = 0 ∨ n = 1) := by omega
      by_cases hn : n = 0
      · simp [h1, hs, hn]
      · by_cases hn1 : n = 1
        · simp [h1, hs, hn1]
        · have : ¬ (n / 2 = 0) := by omega
          simp [h1, hs, hn]
          rw [beq_false_of_ne hn1, beq_false_of_ne this]
    · simp [h1, hs]
  by_cases h2 : k = 2
  · simp [h2, chanceryref17_Right.j0]
  by_cases h3 : k = 3
  · simp [h3, chanceryref17_Right.j0]
  by_cases h4 : k = 4
  · by_cases hn : n = 0 <;> simp [h4, hn, chanceryref17_Right.j0]
  by_cases h5 : k = 5
  · by_cases hn : n = 0 <;> simp [h5, hn, chanceryref17_Right.j0]
  simp [h0, h1, h2, h3, h4, h5, chanceryref17_Right.j0]
theorem ref_number (k n : Int) (s : ByteArray) : chanceryref17_number.f k n s = some (numB k) := by
  unfold chanceryref17_number.f numB
  by_cases h : k = 2 <;> simp [h]
theorem bl_cb : ∀ a b : List UInt8, (if Op.bytesLess a b = true then (-1 : Int) else if Op.bytesLess b a = true then 1 else 0) = Lib.compareBytes a b
  | [], [] => rfl
  | [], _ :: _ => rfl
  | _ :: _, [] => rfl
  | a :: xs, b :: ys => by
    have ih := bl_cb xs ys
    unfold Lib.compareBytes
    simp only [Op.bytesLess]
    by_cases h : a < b
    · simp [h]
    · by_cases h' : b < a
      · have hne : ¬ a = b := by rintro rfl; exact h h'
        have hne' : ¬ b = a := fun e => hne e.symm
        simp [h, h', hne, hne']
      · have e : a = b := UInt8.toNat_inj.1 (by rw [UInt8.lt_iff_toNat_lt] at h h'; omega)
        subst e
        simp [h]
        exact ih
theorem ref_order (k0 n0 : Int) (s0 : ByteArray) (k1 n1 : Int) (s1 : ByteArray) : chanceryref17_Order.f k0 n0 s0 k1 n1 s1 = some (orderR k0 n0 s0 k1 n1 s1) := by
  unfold chanceryref17_Order.f orderR
  have hb := bl_cb s0.toList s1.toList
  have hc : cmpS s0 s1 = Lib.compareBytes s0.toList s1.toList := by unfold cmpS; rw [ByteArray.toList_eq, ByteArray.toList_eq]
  rw [hc, ← hb]
  unfold cmpI
  by_cases a : k0 < k1
  · simp [a]
  by_cases b : k0 > k1
  · simp [a, b]
  by_cases c : n0 < n1
  · simp [a, b, c]
  by_cases d : n0 > n1
  · simp [a, b, c, d]
  simp only [a, b, c, d, if_false, if_true]
  split
  · rfl
  · split <;> rfl
end Go.Proofs.YtbodlnoipkommaaDoor.Ph
namespace Go.Proofs.YtbodlnoipkommaaDoor.Xc
open Go.RowKit Go.Proofs.YtbodlnoipkommaaDoor.Q Go.Proofs.YtbodlnoipkommaaDoor.We Go.Proofs.YtbodlnoipkommaaDoor.Wh Go.Proofs.YtbodlnoipkommaaDoor.Wi Go.Proofs.YtbodlnoipkommaaDoor.Wj Go.Proofs.YtbodlnoipkommaaDoor.Wm Go.Proofs.YtbodlnoipkommaaDoor.Wn Go.Proofs.YtbodlnoipkommaaDoor.Wp Go.Proofs.YtbodlnoipkommaaDoor.Pa Go.Proofs.YtbodlnoipkommaaDoor.Pb Go.Proofs.YtbodlnoipkommaaDoorW.PrintWords Go.Proofs.YtbodlnoipkommaaDoorW.PrintLast Go.Proofs.YtbodlnoipkommaaDoorW.PrintMore
abbrev Vl (k n : Int) (s : ByteArray) : Value := .agg #[.int .u8 k, .int .i64 n, .string s]
abbrev Res (a b : Int) : Ending := .returned (.tuple #[.int .u8 a, .int .i64 b])
theorem lt_alloc {W w' : World} {o : Obj} (hb : Below (W.alloc o).heap.size (W.alloc o) w') : W.heap.size < w'.heap.size := by have := hb.size; simp at this; omega
theorem lt_allocd {W w' : World} {o : Obj} (hb : Below (W.alloc o).drew.heap.size (W.alloc o).drew w') : W.heap.size < w'.heap.size := by have := hb.size; simp at this; omega
theorem lt_keep {W w' : World} {b : Nat} (hb : Below W.heap.size W w') (h : b < W.heap.size) : b < w'.heap.size := Nat.lt_of_lt_of_le h hb.size
theorem Res_eq {a b c : Int} (h : a = b) : Res a c = Res b c := by rw [h]
set_option maxRecDepth 100000 in
set_option maxHeartbeats 4000000 in
theorem c_lo (op k0 n0 : Int) (s0 : ByteArray) (k1 n1 : Int) (s1 : ByteArray) (w : World) (h : op < 7) :
    Calls Tryd.prog 9 #[.int .u8 op, Vl k0 n0 s0, Vl k1 n1 s1] w fun e w' => e = Res 0 2 ∧ Below w.heap.size w w' := by
  go_enter Tryd.func9, Tryd.ntmps9
  go_wp2_with fail
  go_ret2
  exact ⟨rfl, below_alloc (below_alloc (Below.refl _ _) _) _⟩
set_option maxRecDepth 100000 in
set_option maxHeartbeats 4000000 in
theorem c_hi (op k0 n0 : Int) (s0 : ByteArray) (k1 n1 : Int) (s1 : ByteArray) (w : World) (h' : ¬ op < 7) (h : op > 12) :
    Calls Tryd.prog 9 #[.int .u8 op, Vl k0 n0 s0, Vl k1 n1 s1] w fun e w' => e = Res 0 2 ∧ Below w.heap.size w w' := by
  go_enter Tryd.func9, Tryd.ntmps9
  go_wp2_with fail
  go_ret2
  exact ⟨rfl, below_alloc (below_alloc (Below.refl _ _) _) _⟩
set_option maxRecDepth 100000 in
set_option maxHeartbeats 4000000 in
theorem c_r0 (op k0 n0 : Int) (s0 : ByteArray) (k1 n1 : Int) (s1 : ByteArray) (w : World) (o7 : ¬ op < 7) (o12 : ¬ op > 12) (hr0 : rightB k0 n0 s0 = false) :
    Calls Tryd.prog 9 #[.int .u8 op, Vl k0 n0 s0, Vl k1 n1 s1] w fun e w' => e = Res 0 2 ∧ Below w.heap.size w w' := by
  have N := Aside0.mk (value_Right.calls 1 k0 n0 s0 (rightB k0 n0 s0) · (right_f 0 k0 n0 s0))
  rw [hr0] at N
  clear hr0
  go_enter Tryd.func9, Tryd.ntmps9
  go_wp2_with fail
  refine (N.out _).mono ?_
  rintro e w1 ⟨rfl, hb1⟩
  obtain ⟨c10, f10, l10⟩ := bcells hb1 (w.heap.size) (by first | assumption | (simp; done) | (simp; omega) | omega)
  obtain ⟨c11, f11, l11⟩ := bcells hb1 (w.heap.size + 1) (by first | assumption | (simp; done) | (simp; omega) | omega)
  replace hb1 := Aside0.mk hb1
  go_wp2_with fail
  go_ret2
  exact ⟨rfl, below_step (below_alloc (below_alloc (Below.refl _ _) _) _) hb1.out⟩
set_option maxRecDepth 100000 in
set_option maxHeartbeats 4000000 in
theorem c_r1 (op k0 n0 : Int) (s0 : ByteArray) (k1 n1 : Int) (s1 : ByteArray) (w : World) (o7 : ¬ op < 7) (o12 : ¬ op > 12) (hr0 : rightB k0 n0 s0 = true) (hr1 : rightB k1 n1 s1 = false) :
    Calls Tryd.prog 9 #[.int .u8 op, Vl k0 n0 s0, Vl k1 n1 s1] w fun e w' => e = Res 0 2 ∧ Below w.heap.size w w' := by
  have N := Aside0.mk (value_Right.calls 1 k0 n0 s0 (rightB k0 n0 s0) · (right_f 0 k0 n0 s0))
  rw [hr0] at N
  clear hr0
  have M := Aside0.mk (value_Right.calls 1 k1 n1 s1 (rightB k1 n1 s1) · (right_f 0 k1 n1 s1))
  rw [hr1] at M
  clear hr1
  go_enter Tryd.func9, Tryd.ntmps9
  go_wp2_with fail
  refine (N.out _).mono ?_
  rintro e w1 ⟨rfl, hb1⟩
  obtain ⟨c10, f10, l10⟩ := bcells hb1 (w.heap.size) (by first | assumption | (simp; done) | (simp; omega) | omega)
  obtain ⟨c11, f11, l11⟩ := bcells hb1 (w.heap.size + 1) (by first | assumption | (simp; done) | (simp; omega) | omega)
  replace hb1 := Aside0.mk hb1
  go_wp2_with fail
  refine (M.out _).mono ?_
  rintro e w2 ⟨rfl, hb2⟩
  obtain ⟨c20, f20, l20⟩ := bcells hb2 (w.heap.size) (by first | assumption | (simp; done) | (simp; omega) | omega)
  obtain ⟨c21, f21, l21⟩ := bcells hb2 (w.heap.size + 1) (by first | assumption | (simp; done) | (simp; omega) | omega)
  replace hb2 := Aside0.mk hb2
  go_wp2_with fail
  go_ret2
  exact ⟨rfl, below_step (below_step (below_alloc (below_alloc (Below.refl _ _) _) _) hb1.out) hb2.out⟩
set_option maxRecDepth 100000 in
set_option maxHeartbeats 4000000 in
theorem c_null0 (op k0 n0 : Int) (s0 : ByteArray) (k1 n1 : Int) (s1 : ByteArray) (w : World) (o7 : ¬ op < 7) (o12 : ¬ op > 12) (hr0 : rightB k0 n0 s0 = true) (hr1 : rightB k1 n1 s1 = true) (z0 : (k0 == 0) = true) :
    Calls Tryd.prog 9 #[.int .u8 op, Vl k0 n0 s0, Vl k1 n1 s1] w fun e w' => e = Res 2 0 ∧ Below w.heap.size w w' := by
  have N := Aside0.mk (value_Right.calls 1 k0 n0 s0 (rightB k0 n0 s0) · (right_f 0 k0 n0 s0))
  rw [hr0] at N
  clear hr0
  have M := Aside0.mk (value_Right.calls 1 k1 n1 s1 (rightB k1 n1 s1) · (right_f 0 k1 n1 s1))
  rw [hr1] at M
  clear hr1
  obtain rfl : k0 = 0 := by simpa using z0
  clear z0
  go_enter Tryd.func9, Tryd.ntmps9
  go_wp2_with fail
  refine (N.out _).mono ?_
  rintro e w1 ⟨rfl, hb1⟩
  obtain ⟨c10, f10, l10⟩ := bcells hb1 (w.heap.size) (by first | assumption | (simp; done) | (simp; omega) | omega)
  obtain ⟨c11, f11, l11⟩ := bcells hb1 (w.heap.size + 1) (by first | assumption | (simp; done) | (simp; omega) | omega)
  replace hb1 := Aside0.mk hb1
  go_wp2_with fail
  refine (M.out _).mono ?_
  rintro e w2 ⟨rfl, hb2⟩
  obtain ⟨c20, f20, l20⟩ := bcells hb2 (w.heap.size) (by first | assumption | (simp; done) | (simp; omega) | omega)
  obtain ⟨c21, f21, l21⟩ := bcells hb2 (w.heap.size + 1) (by first | assumption | (simp; done) | (simp; omega) | omega)
  replace hb2 := Aside0.mk hb2
  go_wp2_with fail
  go_ret2
  exact ⟨rfl, below_step (below_step (below_alloc (below_alloc (Below.refl _ _) _) _) hb1.out) hb2.out⟩
set_option maxRecDepth 100000 in
set_option maxHeartbeats 4000000 in
theorem c_null1 (op k0 n0 : Int) (s0 : ByteArray) (k1 n1 : Int) (s1 : ByteArray) (w : World) (o7 : ¬ op < 7) (o12 : ¬ op > 12) (hr0 : rightB k0 n0 s0 = true) (hr1 : rightB k1 n1 s1 = true) (z0 : (k0 == 0) = false) (z1 : (k1 == 0) = true) :
    Calls Tryd.prog 9 #[.int .u8 op, Vl k0 n0 s0, Vl k1 n1 s1] w fun e w' => e = Res 2 0 ∧ Below w.heap.size w w' := by
  have N := Aside0.mk (value_Right.calls 1 k0 n0 s0 (rightB k0 n0 s0) · (right_f 0 k0 n0 s0))
  rw [hr0] at N
  clear hr0
  have M := Aside0.mk (value_Right.calls 1 k1 n1 s1 (rightB k1 n1 s1) · (right_f 0 k1 n1 s1))
  rw [hr1] at M
  clear hr1
  obtain rfl : k1 = 0 := by simpa using z1
  clear z1
  go_enter Tryd.func9, Tryd.ntmps9
  go_wp2_with fail
  refine (N.out _).mono ?_
  rintro e w1 ⟨rfl, hb1⟩
  obtain ⟨c10, f10, l10⟩ := bcells hb1 (w.heap.size) (by first | assumption | (simp; done) | (simp; omega) | omega)
  obtain ⟨c11, f11, l11⟩ := bcells hb1 (w.heap.size + 1) (by first | assumption | (simp; done) | (simp; omega) | omega)
  replace hb1 := Aside0.mk hb1
  go_wp2_with fail
  refine (M.out _).mono ?_
  rintro e w2 ⟨rfl, hb2⟩
  obtain ⟨c20, f20, l20⟩ := bcells hb2 (w.heap.size) (by first | assumption | (simp; done) | (simp; omega) | omega)
  obtain ⟨c21, f21, l21⟩ := bcells hb2 (w.heap.size + 1) (by first | assumption | (simp; done) | (simp; omega) | omega)
  replace hb2 := Aside0.mk hb2
  go_wp2_with fail
  go_ret2
  exact ⟨rfl, below_step (below_step (below_alloc (below_alloc (Below.refl _ _) _) _) hb1.out) hb2.out⟩
set_option maxRecDepth 100000 in
set_option maxHeartbeats 4000000 in
theorem c_same (op k0 n0 : Int) (s0 : ByteArray) (k1 n1 : Int) (s1 : ByteArray) (w : World) (o7 : ¬ op < 7) (o12 : ¬ op > 12) (hr0 : rightB k0 n0 s0 = true) (hr1 : rightB k1 n1 s1 = true) (z0 : (k0 == 0) = false) (z1 : (k1 == 0) = false) (e : (k0 != k1) = false) :
    Calls Tryd.prog 9 #[.int .u8 op, Vl k0 n0 s0, Vl k1 n1 s1] w fun e w' => e = Res (boolT (cmpop op (orderR k0 n0 s0 k1 n1 s1))) 0 ∧ Below w.heap.size w w' := by
  have O := Aside0.mk (value_Order.calls k0 n0 s0 k1 n1 s1 _ · (order_f k0 n0 s0 k1 n1 s1))
  have hr := order_range k0 n0 s0 k1 n1 s1
  generalize orderR k0 n0 s0 k1 n1 s1 = c at *
  have N := Aside0.mk (value_Right.calls 1 k0 n0 s0 (rightB k0 n0 s0) · (right_f 0 k0 n0 s0))
  rw [hr0] at N
  clear hr0
  have M := Aside0.mk (value_Right.calls 1 k1 n1 s1 (rightB k1 n1 s1) · (right_f 0 k1 n1 s1))
  rw [hr1] at M
  clear hr1
  rcases hr with rfl | rfl | rfl
  all_goals
    go_enter Tryd.func9, Tryd.ntmps9
    go_wp2_with fail
    refine (N.out _).mono ?_
    rintro e w1 ⟨rfl, hb1⟩
    obtain ⟨c10, f10, l10⟩ := bcells hb1 (w.heap.size) (by first | assumption | (simp; done) | (simp; omega) | omega)
    obtain ⟨c11, f11, l11⟩ := bcells hb1 (w.heap.size + 1) (by first | assumption | (simp; done) | (simp; omega) | omega)
    replace hb1 := Aside0.mk hb1
    go_wp2_with fail
    refine (M.out _).mono ?_
    rintro e w2 ⟨rfl, hb2⟩
    obtain ⟨c20, f20, l20⟩ := bcells hb2 (w.heap.size) (by first | assumption | (simp; done) | (simp; omega) | omega)
    obtain ⟨c21, f21, l21⟩ := bcells hb2 (w.heap.size + 1) (by first | assumption | (simp; done) | (simp; omega) | omega)
    replace hb2 := Aside0.mk hb2
    go_wp2_with fail
    refine (O.out _).mono ?_
    rintro e w3 ⟨rfl, hb3⟩
    obtain ⟨c30, f30, l30⟩ := bcells hb3 (w.heap.size) (by first | assumption | (simp; done) | (simp; omega) | omega)
    obtain ⟨c31, f31, l31⟩ := bcells hb3 (w.heap.size + 1) (by first | assumption | (simp; done) | (simp; omega) | omega)
    replace hb3 := Aside0.mk hb3
    go_wp2_with fail
    all_goals
      go_ret2
      refine ⟨Res_eq ?_, below_step (below_step (below_step (below_alloc (below_alloc (Below.refl _ _) _) _) hb1.out) hb2.out) hb3.out⟩
      first | (simp only [*, cmpop, boolT, cond_true, cond_false]; first | done | rfl | decide) | (exfalso; have a7 := beq_eq_false_iff_ne.mp ‹(op == 7) = false›; have a8 := beq_eq_false_iff_ne.mp ‹(op == 8) = false›; have a9 := beq_eq_false_iff_ne.mp ‹(op == 9) = false›; have a10 := beq_eq_false_iff_ne.mp ‹(op == 10) = false›; have a11 := beq_eq_false_iff_ne.mp ‹(op == 11) = false›; have a12 := beq_eq_false_iff_ne.mp ‹(op == 12) = false›; omega)
set_option maxRecDepth 100000 in
set_option maxHeartbeats 4000000 in
theorem c_k0 (op k0 n0 : Int) (s0 : ByteArray) (k1 n1 : Int) (s1 : ByteArray) (w : World) (o7 : ¬ op < 7) (o12 : ¬ op > 12) (hr0 : rightB k0 n0 s0 = true) (hr1 : rightB k1 n1 s1 = true) (z0 : (k0 == 0) = false) (z1 : (k1 == 0) = false) (e : (k0 != k1) = true) (q0 : numB k0 = false) :
    Calls Tryd.prog 9 #[.int .u8 op, Vl k0 n0 s0, Vl k1 n1 s1] w fun e w' => e = Res 0 270 ∧ Below w.heap.size w w' := by
  have O := Aside0.mk (value_Order.calls k0 n0 s0 k1 n1 s1 _ · (order_f k0 n0 s0 k1 n1 s1))
  generalize orderR k0 n0 s0 k1 n1 s1 = c at *
  have N := Aside0.mk (value_Right.calls 1 k0 n0 s0 (rightB k0 n0 s0) · (right_f 0 k0 n0 s0))
  rw [hr0] at N
  clear hr0
  have M := Aside0.mk (value_Right.calls 1 k1 n1 s1 (rightB k1 n1 s1) · (right_f 0 k1 n1 s1))
  rw [hr1] at M
  clear hr1
  have A0 := Aside0.mk (value_number.calls k0 n0 s0 (numB k0) · (number_f k0 n0 s0))
  rw [q0] at A0
  clear q0
  go_enter Tryd.func9, Tryd.ntmps9
  go_wp2_with fail
  refine (N.out _).mono ?_
  rintro e w1 ⟨rfl, hb1⟩
  obtain ⟨c10, f10, l10⟩ := bcells hb1 (w.heap.size) (by first | assumption | (simp; done) | (simp; omega) | omega)
  obtain ⟨c11, f11, l11⟩ := bcells hb1 (w.heap.size + 1) (by first | assumption | (simp; done) | (simp; omega) | omega)
  replace hb1 := Aside0.mk hb1
  go_wp2_with fail
  refine (M.out _).mono ?_
  rintro e w2 ⟨rfl, hb2⟩
  obtain ⟨c20, f20, l20⟩ := bcells hb2 (w.heap.size) (by first | assumption | (simp; done) | (simp; omega) | omega)
  obtain ⟨c21, f21, l21⟩ := bcells hb2 (w.heap.size + 1) (by first | assumption | (simp; done) | (simp; omega) | omega)
  replace hb2 := Aside0.mk hb2
  go_wp2_with fail
  refine (O.out _).mono ?_
  rintro e w3 ⟨rfl, hb3⟩
  obtain ⟨c30, f30, l30⟩ := bcells hb3 (w.heap.size) (by first | assumption | (simp; done) | (simp; omega) | omega)
  obtain ⟨c31, f31, l31⟩ := bcells hb3 (w.heap.size + 1) (by first | assumption | (simp; done) | (simp; omega) | omega)
  replace hb3 := Aside0.mk hb3
  go_wp2_with fail
  refine (A0.out _).mono ?_
  rintro e w4 ⟨rfl, hb4⟩
  obtain ⟨c40, f40, l40⟩ := bcells hb4 (w.heap.size) (by first | assumption | (simp; done) | (simp; omega) | omega)
  obtain ⟨c41, f41, l41⟩ := bcells hb4 (w.heap.size + 1) (by first | assumption | (simp; done) | (simp; omega) | omega)
  replace hb4 := Aside0.mk hb4
  go_wp2_with fail
  go_ret2
  exact ⟨rfl, below_step (below_step (below_step (below_step (below_alloc (below_alloc (Below.refl _ _) _) _) hb1.out) hb2.out) hb3.out) hb4.out⟩
set_option maxRecDepth 100000 in
set_option maxHeartbeats 4000000 in
theorem c_k1 (op k0 n0 : Int) (s0 : ByteArray) (k1 n1 : Int) (s1 : ByteArray) (w : World) (o7 : ¬ op < 7) (o12 : ¬ op > 12) (hr0 : rightB k0 n0 s0 = true) (hr1 : rightB k1 n1 s1 = true) (z0 : (k0 == 0) = false) (z1 : (k1 == 0) = false) (e : (k0 != k1) = true) (q0 : numB k0 = true) (q1 : numB k1 = false) :
    Calls Tryd.prog 9 #[.int .u8 op, Vl k0 n0 s0, Vl k1 n1 s1] w fun e w' => e = Res 0 270 ∧ Below w.heap.size w w' := by
  have O := Aside0.mk (value_Order.calls k0 n0 s0 k1 n1 s1 _ · (order_f k0 n0 s0 k1 n1 s1))
  generalize orderR k0 n0 s0 k1 n1 s1 = c at *
  have N := Aside0.mk (value_Right.calls 1 k0 n0 s0 (rightB k0 n0 s0) · (right_f 0 k0 n0 s0))
  rw [hr0] at N
  clear hr0
  have M := Aside0.mk (value_Right.calls 1 k1 n1 s1 (rightB k1 n1 s1) · (right_f 0 k1 n1 s1))
  rw [hr1] at M
  clear hr1
  have A0 := Aside0.mk (value_number.calls k0 n0 s0 (numB k0) · (number_f k0 n0 s0))
  rw [q0] at A0
  clear q0
  have A1 := Aside0.mk (value_number.calls k1 n1 s1 (numB k1) · (number_f k1 n1 s1))
  rw [q1] at A1
  clear q1
  go_enter Tryd.func9, Tryd.ntmps9
  go_wp2_with fail
  refine (N.out _).mono ?_
  rintro e w1 ⟨rfl, hb1⟩
  obtain ⟨c10, f10, l10⟩ := bcells hb1 (w.heap.size) (by first | assumption | (simp; done) | (simp; omega) | omega)
  obtain ⟨c11, f11, l11⟩ := bcells hb1 (w.heap.size + 1) (by first | assumption | (simp; done) | (simp; omega) | omega)
  replace hb1 := Aside0.mk hb1
  go_wp2_with fail
  refine (M.out _).mono ?_
  rintro e w2 ⟨rfl, hb2⟩
  obtain ⟨c20, f20, l20⟩ := bcells hb2 (w.heap.size) (by first | assumption | (simp; done) | (simp; omega) | omega)
  obtain ⟨c21, f21, l21⟩ := bcells hb2 (w.heap.size + 1) (by first | assumption | (simp; done) | (simp; omega) | omega)
  replace hb2 := Aside0.mk hb2
  go_wp2_with fail
  refine (O.out _).mono ?_
  rintro e w3 ⟨rfl, hb3⟩
  obtain ⟨c30, f30, l30⟩ := bcells hb3 (w.heap.size) (by first | assumption | (simp; done) | (simp; omega) | omega)
  obtain ⟨c31, f31, l31⟩ := bcells hb3 (w.heap.size + 1) (by first | assumption | (simp; done) | (simp; omega) | omega)
  replace hb3 := Aside0.mk hb3
  go_wp2_with fail
  refine (A0.out _).mono ?_
  rintro e w4 ⟨rfl, hb4⟩
  obtain ⟨c40, f40, l40⟩ := bcells hb4 (w.heap.size) (by first | assumption | (simp; done) | (simp; omega) | omega)
  obtain ⟨c41, f41, l41⟩ := bcells hb4 (w.heap.size + 1) (by first | assumption | (simp; done) | (simp; omega) | omega)
  replace hb4 := Aside0.mk hb4
  go_wp2_with fail
  refine (A1.out _).mono ?_
  rintro e w5 ⟨rfl, hb5⟩
  obtain ⟨c50, f50, l50⟩ := bcells hb5 (w.heap.size) (by first | assumption | (simp; done) | (simp; omega) | omega)
  obtain ⟨c51, f51, l51⟩ := bcells hb5 (w.heap.size + 1) (by first | assumption | (simp; done) | (simp; omega) | omega)
  replace hb5 := Aside0.mk hb5
  go_wp2_with fail
  go_ret2
  exact ⟨rfl, below_step (below_step (below_step (below_step (below_step (below_alloc (below_alloc (Below.refl _ _) _) _) hb1.out) hb2.out) hb3.out) hb4.out) hb5.out⟩
set_option maxRecDepth 100000 in
set_option maxHeartbeats 4000000 in
theorem c_num (op k0 n0 : Int) (s0 : ByteArray) (k1 n1 : Int) (s1 : ByteArray) (x0 x1 y0 y1 v0 v1 r0 r1 t : Int) (w : World) (o7 : ¬ op < 7) (o12 : ¬ op > 12) (hr0 : rightB k0 n0 s0 = true) (hr1 : rightB k1 n1 s1 = true) (z0 : (k0 == 0) = false) (z1 : (k1 == 0) = false) (e : (k0 != k1) = true) (q0 : numB k0 = true) (q1 : numB k1 = true)
    (hx : value_fixed.f k0 n0 s0 = some (x0, x1)) (hy : value_fixed.f k1 n1 s1 = some (y0, y1)) (ht : value_wide_minus.f y0 y1 = some (v0, v1)) (hp : value_wide_plus.f x0 x1 v0 v1 = some (r0, r1)) (hk : cmp_Compare_int64.f r0 0 = some t) (tr : t = -1 ∨ t = 0 ∨ t = 1) :
    Calls Tryd.prog 9 #[.int .u8 op, Vl k0 n0 s0, Vl k1 n1 s1] w fun e w' => e = Res (boolT (cmpop op (if t = 0 then (if r1 = 0 then t else 1) else t))) 0 ∧ Below w.heap.size w w' := by
  have F0 := Aside0.mk (value_fixed.calls k0 n0 s0 x0 x1 · hx)
  have F1 := Aside0.mk (value_fixed.calls k1 n1 s1 y0 y1 · hy)
  have Mi := Aside0.mk (value_wide_minus.calls y0 y1 v0 v1 · ht)
  have P := Aside0.mk (value_wide_plus.calls x0 x1 v0 v1 r0 r1 · hp)
  have K := Aside0.mk (cmp_Compare_int64.calls r0 0 t · hk)
  clear hx hy ht hp hk
  have O := Aside0.mk (value_Order.calls k0 n0 s0 k1 n1 s1 _ · (order_f k0 n0 s0 k1 n1 s1))
  generalize orderR k0 n0 s0 k1 n1 s1 = c at *
  have N := Aside0.mk (value_Right.calls 1 k0 n0 s0 (rightB k0 n0 s0) · (right_f 0 k0 n0 s0))
  rw [hr0] at N
  clear hr0
  have M := Aside0.mk (value_Right.calls 1 k1 n1 s1 (rightB k1 n1 s1) · (right_f 0 k1 n1 s1))
  rw [hr1] at M
  clear hr1
  have A0 := Aside0.mk (value_number.calls k0 n0 s0 (numB k0) · (number_f k0 n0 s0))
  rw [q0] at A0
  clear q0
  have A1 := Aside0.mk (value_number.calls k1 n1 s1 (numB k1) · (number_f k1 n1 s1))
  rw [q1] at A1
  clear q1
  go_enter Tryd.func9, Tryd.ntmps9
  go_wp2_with fail
  refine (N.out _).mono ?_
  rintro e w1 ⟨rfl, hb1⟩
  obtain ⟨c10, f10, l10⟩ := bcells hb1 (w.heap.size) (by first | assumption | (simp; done) | (simp; omega) | omega)
  obtain ⟨c11, f11, l11⟩ := bcells hb1 (w.heap.size + 1) (by first | assumption | (simp; done) | (simp; omega) | omega)
  replace hb1 := Aside0.mk hb1
  go_wp2_with fail
  refine (M.out _).mono ?_
  rintro e w2 ⟨rfl, hb2⟩
  obtain ⟨c20, f20, l20⟩ := bcells hb2 (w.heap.size) (by first | assumption | (simp; done) | (simp; omega) | omega)
  obtain ⟨c21, f21, l21⟩ := bcells hb2 (w.heap.size + 1) (by first | assumption | (simp; done) | (simp; omega) | omega)
  replace hb2 := Aside0.mk hb2
  go_wp2_with fail
  refine (O.out _).mono ?_
  rintro e w3 ⟨rfl, hb3⟩
  obtain ⟨c30, f30, l30⟩ := bcells hb3 (w.heap.size) (by first | assumption | (simp; done) | (simp; omega) | omega)
  obtain ⟨c31, f31, l31⟩ := bcells hb3 (w.heap.size + 1) (by first | assumption | (simp; done) | (simp; omega) | omega)
  replace hb3 := Aside0.mk hb3
  go_wp2_with fail
  refine (A0.out _).mono ?_
  rintro e w4 ⟨rfl, hb4⟩
  obtain ⟨c40, f40, l40⟩ := bcells hb4 (w.heap.size) (by first | assumption | (simp; done) | (simp; omega) | omega)
  obtain ⟨c41, f41, l41⟩ := bcells hb4 (w.heap.size + 1) (by first | assumption | (simp; done) | (simp; omega) | omega)
  replace hb4 := Aside0.mk hb4
  go_wp2_with fail
  refine (A1.out _).mono ?_
  rintro e w5 ⟨rfl, hb5⟩
  obtain ⟨c50, f50, l50⟩ := bcells hb5 (w.heap.size) (by first | assumption | (simp; done) | (simp; omega) | omega)
  obtain ⟨c51, f51, l51⟩ := bcells hb5 (w.heap.size + 1) (by first | assumption | (simp; done) | (simp; omega) | omega)
  replace hb5 := Aside0.mk hb5
  go_wp2_with fail
  have rules : ∀ W, Below w5.heap.size w5 W → (W.cell? ⟨w.heap.size, 0, none⟩ = some (.int .u8 k0) ∧ W.cell? ⟨w.heap.size, 1, none⟩ = some (.int .i64 n0) ∧ W.cell? ⟨w.heap.size, 2, none⟩ = some (.string s0)) ∧ W.cell? ⟨w.heap.size + 1, 0, none⟩ = some (.int .u8 k1) ∧ W.cell? ⟨w.heap.size + 1, 1, none⟩ = some (.int .i64 n1) ∧ W.cell? ⟨w.heap.size + 1, 2, none⟩ = some (.string s1) :=
    fun W h => ⟨⟨pw_cell_below h (by go_simp), pw_cell_below h (by go_simp), pw_cell_below h (by go_simp)⟩, pw_cell_below h (by go_simp), pw_cell_below h (by go_simp), pw_cell_below h (by go_simp)⟩
  have ra0 := fun W h => (rules W h).1.1
  have ra1 := fun W h => (rules W h).1.2.1
  have ra2 := fun W h => (rules W h).1.2.2
  have rb0 := fun W h => (rules W h).2.1
  have rb1 := fun W h => (rules W h).2.2.1
  have rb2 := fun W h => (rules W h).2.2.2
  clear rules c10 c11 c20 c21 c30 c31 c40 c41 c50 c51 f10 f11 f20 f21 f30 f31 f40 f41 f50 f51 l10 l11 l20 l21 l30 l31 l40 l41 l50 l51
  have St0 := Aside0.mk (show Below w5.heap.size w5 w5.drew from below_drew1 (Below.refl _ _))
  go_cut [9] (fun s9 wx => ∃ g : Nat, s9 = .pointer (some ⟨g, 0, none⟩) ∧ wx.cell? ⟨g, 0, none⟩ = some (.int .i64 r0) ∧ wx.cell? ⟨g, 1, none⟩ = some (.int .u64 r1) ∧ Below w5.heap.size w5 wx)
  case first =>
    go_region_held3 (fun W => Below w5.heap.size w5 W)
      (first | (with_reducible exact St0.out) | (with_reducible exact below_drew1 (below_alloc (Below.refl _ _) _)) | (with_reducible exact below_step (by assumption) hb) | (with_reducible exact below_alloc (by assumption) _) | (with_reducible exact below_alloc hB _) | (exact set_ok (set_ok (by assumption) (by first | exact Nat.le_refl _ | exact below_size (by assumption)) _) (by first | exact Nat.le_refl _ | exact below_size (by assumption)) _))
      (first | (((with_reducible refine (F0.out _).mono ?_); rintro e w' ⟨rfl, hb⟩; have hB := (below_step (by assumption) hb : Below w5.heap.size w5 w'); have cR := (bcell hb).1; have fR := (bcell hb).2; first | (have lR := lt_alloc hb) | (have lR := lt_allocd hb) | (have lR := lt_keep hb (by assumption)) | skip)) | (((with_reducible refine (F1.out _).mono ?_); rintro e w' ⟨rfl, hb⟩; have hB := (below_step (by assumption) hb : Below w5.heap.size w5 w'); have cR := (bcell hb).1; have fR := (bcell hb).2; first | (have lR := lt_alloc hb) | (have lR := lt_allocd hb) | (have lR := lt_keep hb (by assumption)) | skip)) | (((with_reducible refine (Mi.out _).mono ?_); rintro e w' ⟨rfl, hb⟩; have hB := (below_step (by assumption) hb : Below w5.heap.size w5 w'); have cR := (bcell hb).1; have fR := (bcell hb).2; first | (have lR := lt_alloc hb) | (have lR := lt_allocd hb) | (have lR := lt_keep hb (by assumption)) | skip)) | (((with_reducible refine (P.out _).mono ?_); rintro e w' ⟨rfl, hb⟩; have hB := (below_step (by assumption) hb : Below w5.heap.size w5 w'); have cR := (bcell hb).1; have fR := (bcell hb).2; first | (have lR := lt_alloc hb) | (have lR := lt_allocd hb) | (have lR := lt_keep hb (by assumption)) | skip)))
    all_goals (go_wp2_with fail; go_meet; exact ⟨_, rfl, by go_simp, by go_simp, by assumption⟩)
  case rest =>
    obtain ⟨g, rfl, g0, g1, hb6⟩ := hcut
    replace hb6 := Aside0.mk hb6
    have bz : Below w.heap.size w wc := below_step (below_step (below_step (below_step (below_step (below_step (below_alloc (below_alloc (Below.refl _ _) _) _) hb1.out) hb2.out) hb3.out) hb4.out) hb5.out) hb6.out
    replace bz := Aside0.mk bz
    go_wp2_with fail
    refine (K.out _).mono ?_
    rintro e w' ⟨rfl, ⟨nn, rfl⟩⟩
    rcases tr with rfl | rfl | rfl
    case inl =>
      go_wp2
      all_goals
        go_ret2
        refine ⟨Res_eq ?_, (pw_below_drewN bz.out _)⟩
        first | (simp only [*, cmpop, boolT, cond_true, cond_false]; first | done | rfl | decide) | (exfalso; have a7 := beq_eq_false_iff_ne.mp ‹(op == 7) = false›; have a8 := beq_eq_false_iff_ne.mp ‹(op == 8) = false›; have a9 := beq_eq_false_iff_ne.mp ‹(op == 9) = false›; have a10 := beq_eq_false_iff_ne.mp ‹(op == 10) = false›; have a11 := beq_eq_false_iff_ne.mp ‹(op == 11) = false›; have a12 := beq_eq_false_iff_ne.mp ‹(op == 12) = false›; omega)
    case inr.inr =>
      go_wp2
      all_goals
        go_ret2
        refine ⟨Res_eq ?_, (pw_below_drewN bz.out _)⟩
        first | (simp only [*, cmpop, boolT, cond_true, cond_false]; first | done | rfl | decide) | (exfalso; have a7 := beq_eq_false_iff_ne.mp ‹(op == 7) = false›; have a8 := beq_eq_false_iff_ne.mp ‹(op == 8) = false›; have a9 := beq_eq_false_iff_ne.mp ‹(op == 9) = false›; have a10 := beq_eq_false_iff_ne.mp ‹(op == 10) = false›; have a11 := beq_eq_false_iff_ne.mp ‹(op == 11) = false›; have a12 := beq_eq_false_iff_ne.mp ‹(op == 12) = false›; omega)
    case inr.inl =>
      by_cases hz : r1 = 0
      · subst hz
        go_wp2
        all_goals
          go_ret2
          refine ⟨Res_eq ?_, (pw_below_drewN bz.out _)⟩
          first | (simp only [*, cmpop, boolT, cond_true, cond_false]; first | done | rfl | decide) | (exfalso; have a7 := beq_eq_false_iff_ne.mp ‹(op == 7) = false›; have a8 := beq_eq_false_iff_ne.mp ‹(op == 8) = false›; have a9 := beq_eq_false_iff_ne.mp ‹(op == 9) = false›; have a10 := beq_eq_false_iff_ne.mp ‹(op == 10) = false›; have a11 := beq_eq_false_iff_ne.mp ‹(op == 11) = false›; have a12 := beq_eq_false_iff_ne.mp ‹(op == 12) = false›; omega)
      · have hz1 : (r1 == 0) = false := beq_false_of_ne hz
        have hz2 : (r1 != 0) = true := by simpa [bne] using hz
        go_wp2
        all_goals
          go_ret2
          refine ⟨Res_eq ?_, (pw_below_drewN bz.out _)⟩
          first | (simp only [*, cmpop, boolT, cond_true, cond_false]; first | done | rfl | decide) | (exfalso; have a7 := beq_eq_false_iff_ne.mp ‹(op == 7) = false›; have a8 := beq_eq_false_iff_ne.mp ‹(op == 8) = false›; have a9 := beq_eq_false_iff_ne.mp ‹(op == 9) = false›; have a10 := beq_eq_false_iff_ne.mp ‹(op == 10) = false›; have a11 := beq_eq_false_iff_ne.mp ‹(op == 11) = false›; have a12 := beq_eq_false_iff_ne.mp ‹(op == 12) = false›; omega)
end Go.Proofs.YtbodlnoipkommaaDoor.Xc
namespace Go.Proofs.YtbodlnoipkommaaDoor.Xd
open Go.RowKit Go.Proofs.YtbodlnoipkommaaDoor.Q Go.Proofs.YtbodlnoipkommaaDoor.We Go.Proofs.YtbodlnoipkommaaDoor.Wh Go.Proofs.YtbodlnoipkommaaDoor.Wp Go.Proofs.YtbodlnoipkommaaDoor.Pa Go.Proofs.YtbodlnoipkommaaDoor.Pb Go.Proofs.YtbodlnoipkommaaDoor.Xc Go.Proofs.YtbodlnoipkommaaDoorW.PrintWords Go.Proofs.YtbodlnoipkommaaDoorW.PrintLast Go.Proofs.YtbodlnoipkommaaDoorW.PrintMore
def value_Compare.f (op k0 n0 : Int) (s0 : ByteArray) (k1 n1 : Int) (s1 : ByteArray) : Option (Int × Int) := if I64 n0 ∧ I64 n1 then some (compareR op k0 n0 s0 k1 n1 s1) else none
theorem value_Compare.calls (op k0 n0 : Int) (s0 : ByteArray) (k1 n1 : Int) (s1 : ByteArray) (r1 r2 : Int) (w : World) (h : value_Compare.f op k0 n0 s0 k1 n1 s1 = some (r1, r2)) :
    Calls Tryd.prog 9 #[.int .u8 op, .agg #[.int .u8 k0, .int .i64 n0, .string s0], .agg #[.int .u8 k1, .int .i64 n1, .string s1]] w fun e w' => e = .returned (.tuple #[.int .u8 r1, .int .i64 r2]) ∧ Below w.heap.size w w' := by
  unfold value_Compare.f at h
  by_cases hc : I64 n0 ∧ I64 n1
  case neg => rw [if_neg hc] at h; cases h
  rw [if_pos hc] at h
  obtain ⟨h0, h1⟩ := hc
  injection h with h
  unfold compareR at h
  by_cases o7 : op < 7
  · rw [if_pos (Or.inl o7)] at h
    injection h with e1 e2; subst e1 e2
    exact c_lo op k0 n0 s0 k1 n1 s1 w o7
  by_cases o12 : op > 12
  · rw [if_pos (Or.inr (Or.inl o12))] at h
    injection h with e1 e2; subst e1 e2
    exact c_hi op k0 n0 s0 k1 n1 s1 w o7 o12
  cases hr0 : rightB k0 n0 s0
  · rw [if_pos (Or.inr (Or.inr (Or.inl hr0)))] at h
    injection h with e1 e2; subst e1 e2
    exact c_r0 op k0 n0 s0 k1 n1 s1 w o7 o12 hr0
  cases hr1 : rightB k1 n1 s1
  · rw [if_pos (Or.inr (Or.inr (Or.inr hr1)))] at h
    injection h with e1 e2; subst e1 e2
    exact c_r1 op k0 n0 s0 k1 n1 s1 w o7 o12 hr0 hr1
  simp only [o7, o12, hr0, hr1, Bool.true_eq_false, or_self, if_false] at h
  by_cases z0 : k0 = 0
  · rw [if_pos (Or.inl z0)] at h
    injection h with e1 e2; subst e1 e2
    exact c_null0 op k0 n0 s0 k1 n1 s1 w o7 o12 hr0 hr1 (by simpa using z0)
  by_cases z1 : k1 = 0
  · rw [if_pos (Or.inr z1)] at h
    injection h with e1 e2; subst e1 e2
    exact c_null1 op k0 n0 s0 k1 n1 s1 w o7 o12 hr0 hr1 (beq_false_of_ne z0) (by simpa using z1)
  simp only [z0, z1, or_self, if_false] at h
  by_cases e : k0 = k1
  · rw [if_pos e] at h
    injection h with e1 e2; subst e1 e2
    exact c_same op k0 n0 s0 k1 n1 s1 w o7 o12 hr0 hr1 (beq_false_of_ne z0) (beq_false_of_ne z1) (by simp [e])
  rw [if_neg e] at h
  have e' : (k0 != k1) = true := by simpa [bne] using e
  cases q0 : numB k0
  · rw [if_neg (by rw [q0]; simp)] at h
    injection h with e1 e2; subst e1 e2
    exact c_k0 op k0 n0 s0 k1 n1 s1 w o7 o12 hr0 hr1 (beq_false_of_ne z0) (beq_false_of_ne z1) e' q0
  cases q1 : numB k1
  · rw [if_neg (by rw [q1]; simp)] at h
    injection h with e1 e2; subst e1 e2
    exact c_k1 op k0 n0 s0 k1 n1 s1 w o7 o12 hr0 hr1 (beq_false_of_ne z0) (beq_false_of_ne z1) e' q0 q1
  rw [if_pos ⟨q0, q1⟩] at h
  injection h with e1 e2; subst e1 e2
  have hs := ((fix_range k0 n0 h0).2.2 k1 n1 h1)
  have e3 : fixV k0 n0 + -fixV k1 n1 = fixV k0 n0 - fixV k1 n1 := by omega
  have := c_num op k0 n0 s0 k1 n1 s1 _ _ _ _ _ _ _ _ _ w o7 o12 hr0 hr1 (beq_false_of_ne z0) (beq_false_of_ne z1) e' q0 q1 (fixed_fV k0 n0 s0 h0) (fixed_fV k1 n1 s1 h1) (minus_f _ (fix_range k1 n1 h1).1 (fix_range k1 n1 h1).2.1) (plus_f _ _ (fix_range k0 n0 h0).1 (fix_range k1 n1 h1).2.1 hs.2.2) (cmp64_f _ _) (cmpI_range _ _)
  rw [e3, sgn_f _ hs.2.1] at this
  exact this
end Go.Proofs.YtbodlnoipkommaaDoor.Xd
namespace Go.Proofs.YtbodlnoipkommaaDoor.Q
open Go.RowKit Go.Proofs.YtbodlnoipkommaaDoorW.PrintWords Go.Proofs.YtbodlnoipkommaaDoorW.PrintLast Go.Proofs.YtbodlnoipkommaaDoorW.PrintMore
attribute [local go_sem] max2_int min2_int max_two min_two max_three min_three max_four min_four   -- for this text's walks alone
set_option linter.unusedVariables false
set_option linter.unusedSimpArgs false
def chancerylaw17_num.f (a0 : Int) : Option (Int × Int × ByteArray) := some (2, a0, (⟨#[]⟩ : ByteArray))
set_option maxHeartbeats 8000000 in
set_option maxRecDepth 100000 in
theorem chancerylaw17_num.calls (a0 : Int) (r1 : Int) (r2 : Int) (r3 : ByteArray) (w : World) (h : chancerylaw17_num.f a0 = some (r1, r2, r3)) :
    Calls Tryd.prog 49 #[.int .i64 a0] w fun e w' => e = .returned (.agg #[.int .u8 r1, .int .i64 r2, .string r3]) ∧ Below w.heap.size w w' := by
  have hu25 := Tryd.underlying25
  have HB := Aside0.mk (Below.refl w.heap.size w)
  have H : (some (2, a0, (⟨#[]⟩ : ByteArray))) = some (r1, r2, r3) := h
  clear h
  simp only [Option.some.injEq, Prod.mk.injEq] at H
  obtain ⟨rfl, rfl, rfl⟩ := H
  go_enter Tryd.func49, Tryd.ntmps49
  go_wp2_with (first | ((with_reducible refine gate_dst (N := 2) rfl ?_); refine box_event ?hg (N := 2) ?hd (cs := #[.int .u8 0, .int .i64 0, .string (⟨#[]⟩ : ByteArray)]) (t := 25) ?hr ?_; (case hd => rfl); (case hg => rfl); (case hr => first | (go_simp; done) | (go_simp; rfl)); intro gb200 hg w2 hbox hb; have n0_ := Aside0.mk (below_step (by repeat (first | (with_reducible first | exact HB.out | apply below_alloc | apply pw_below_drewN | apply below_drew1) | exact HB.out)) hb); have n1_ := Aside0.mk (hbox); have n2_ := Aside0.mk ((by rw [hg]; exact (below_size (by repeat (first | (with_reducible first | exact HB.out | apply below_alloc | apply pw_below_drewN | apply below_drew1) | exact HB.out))) : w.heap.size ≤ gb200)); have n3_ := Aside0.mk ((by rw [hg]; exact (below_size (by repeat (first | (with_reducible first | exact HB.out | apply below_alloc | apply pw_below_drewN | apply below_drew1) | exact HB.out))) : w.heap.size ≤ gb200)); clear HB; have HB := n0_; have BK200 := n1_; have GW200 := n2_; have GE200 := n3_; clear n0_ n1_ n2_ n3_; clear hb hbox hg; have hcz3_0 : w2.cell? ⟨gb200, 0, none⟩ = some (.int .u8 0) := (blk_cell BK200.out 0).trans rfl; have hcz3_1 : w2.cell? ⟨gb200, 1, none⟩ = some (.int .i64 0) := (blk_cell BK200.out 1).trans rfl; have hcz3_2 : w2.cell? ⟨gb200, 2, none⟩ = some (.string (⟨#[]⟩ : ByteArray)) := (blk_cell BK200.out 2).trans rfl; have hfz3_0 := blk_frozen BK200.out 0; have hfz3_1 := blk_frozen BK200.out 1; have hfz3_2 := blk_frozen BK200.out 2))
  refine bodyPost_ret (results_cell_row rfl _ _ gb200 25 #[.int .u8 2, .int .i64 a0, .string (⟨#[]⟩ : ByteArray)] (0, 0) _ rfl (by (with_reducible repeat (first | refine blk_drewN ?_ _ | refine blk_drew ?_ | refine blk_alloc ?_ _)); refine blk_put (cs := #[.int .u8 2, .int .i64 a0, .string (⟨#[]⟩ : ByteArray)]) ?_ 2 _ rfl; (with_reducible repeat (first | refine blk_drewN ?_ _ | refine blk_drew ?_ | refine blk_alloc ?_ _)); refine blk_put (cs := #[.int .u8 2, .int .i64 0, .string (⟨#[]⟩ : ByteArray)]) ?_ 1 _ rfl; (with_reducible repeat (first | refine blk_drewN ?_ _ | refine blk_drew ?_ | refine blk_alloc ?_ _)); refine blk_put (cs := #[.int .u8 0, .int .i64 0, .string (⟨#[]⟩ : ByteArray)]) ?_ 0 _ rfl; (with_reducible repeat (first | refine blk_drewN ?_ _ | refine blk_drew ?_ | refine blk_alloc ?_ _)); exact BK200.out) Tryd.underlying25 rfl (by kernel_rfl)) rfl ?_
  exact ⟨by first | rfl | (simp [errW_none, errW_some] <;> rfl) | (simp [*, errW_none, errW_some] <;> rfl), by repeat (first | (with_reducible first | exact HB.out | apply below_alloc | apply pw_below_drewN | apply below_drew1 | refine below_set ?_ GE200.out) | exact HB.out)⟩
end Go.Proofs.YtbodlnoipkommaaDoor.Q
namespace Go.Proofs.YtbodlnoipkommaaDoor.Q
open Go.RowKit Go.Proofs.YtbodlnoipkommaaDoorW.PrintWords Go.Proofs.YtbodlnoipkommaaDoorW.PrintLast Go.Proofs.YtbodlnoipkommaaDoorW.PrintMore
attribute [local go_sem] max2_int min2_int max_two min_two max_three min_three max_four min_four   -- for this text's walks alone
set_option linter.unusedVariables false
set_option linter.unusedSimpArgs false
def chancerylaw17_dec.f (a0 : Int) : Option (Int × Int × ByteArray) := some (3, a0, (⟨#[]⟩ : ByteArray))
set_option maxHeartbeats 8000000 in
set_option maxRecDepth 100000 in
theorem chancerylaw17_dec.calls (a0 : Int) (r1 : Int) (r2 : Int) (r3 : ByteArray) (w : World) (h : chancerylaw17_dec.f a0 = some (r1, r2, r3)) :
    Calls Tryd.prog 50 #[.int .i64 a0] w fun e w' => e = .returned (.agg #[.int .u8 r1, .int .i64 r2, .string r3]) ∧ Below w.heap.size w w' := by
  have hu25 := Tryd.underlying25
  have HB := Aside0.mk (Below.refl w.heap.size w)
  have H : (some (3, a0, (⟨#[]⟩ : ByteArray))) = some (r1, r2, r3) := h
  clear h
  simp only [Option.some.injEq, Prod.mk.injEq] at H
  obtain ⟨rfl, rfl, rfl⟩ := H
  go_enter Tryd.func50, Tryd.ntmps50
  go_wp2_with (first | ((with_reducible refine gate_dst (N := 2) rfl ?_); refine box_event ?hg (N := 2) ?hd (cs := #[.int .u8 0, .int .i64 0, .string (⟨#[]⟩ : ByteArray)]) (t := 25) ?hr ?_; (case hd => rfl); (case hg => rfl); (case hr => first | (go_simp; done) | (go_simp; rfl)); intro gb201 hg w2 hbox hb; have n0_ := Aside0.mk (below_step (by repeat (first | (with_reducible first | exact HB.out | apply below_alloc | apply pw_below_drewN | apply below_drew1) | exact HB.out)) hb); have n1_ := Aside0.mk (hbox); have n2_ := Aside0.mk ((by rw [hg]; exact (below_size (by repeat (first | (with_reducible first | exact HB.out | apply below_alloc | apply pw_below_drewN | apply below_drew1) | exact HB.out))) : w.heap.size ≤ gb201)); have n3_ := Aside0.mk ((by rw [hg]; exact (below_size (by repeat (first | (with_reducible first | exact HB.out | apply below_alloc | apply pw_below_drewN | apply below_drew1) | exact HB.out))) : w.heap.size ≤ gb201)); clear HB; have HB := n0_; have BK201 := n1_; have GW201 := n2_; have GE201 := n3_; clear n0_ n1_ n2_ n3_; clear hb hbox hg; have hcz3_0 : w2.cell? ⟨gb201, 0, none⟩ = some (.int .u8 0) := (blk_cell BK201.out 0).trans rfl; have hcz3_1 : w2.cell? ⟨gb201, 1, none⟩ = some (.int .i64 0) := (blk_cell BK201.out 1).trans rfl; have hcz3_2 : w2.cell? ⟨gb201, 2, none⟩ = some (.string (⟨#[]⟩ : ByteArray)) := (blk_cell BK201.out 2).trans rfl; have hfz3_0 := blk_frozen BK201.out 0; have hfz3_1 := blk_frozen BK201.out 1; have hfz3_2 := blk_frozen BK201.out 2))
  refine bodyPost_ret (results_cell_row rfl _ _ gb201 25 #[.int .u8 3, .int .i64 a0, .string (⟨#[]⟩ : ByteArray)] (0, 0) _ rfl (by (with_reducible repeat (first | refine blk_drewN ?_ _ | refine blk_drew ?_ | refine blk_alloc ?_ _)); refine blk_put (cs := #[.int .u8 3, .int .i64 a0, .string (⟨#[]⟩ : ByteArray)]) ?_ 2 _ rfl; (with_reducible repeat (first | refine blk_drewN ?_ _ | refine blk_drew ?_ | refine blk_alloc ?_ _)); refine blk_put (cs := #[.int .u8 3, .int .i64 0, .string (⟨#[]⟩ : ByteArray)]) ?_ 1 _ rfl; (with_reducible repeat (first | refine blk_drewN ?_ _ | refine blk_drew ?_ | refine blk_alloc ?_ _)); refine blk_put (cs := #[.int .u8 0, .int .i64 0, .string (⟨#[]⟩ : ByteArray)]) ?_ 0 _ rfl; (with_reducible repeat (first | refine blk_drewN ?_ _ | refine blk_drew ?_ | refine blk_alloc ?_ _)); exact BK201.out) Tryd.underlying25 rfl (by kernel_rfl)) rfl ?_
  exact ⟨by first | rfl | (simp [errW_none, errW_some] <;> rfl) | (simp [*, errW_none, errW_some] <;> rfl), by repeat (first | (with_reducible first | exact HB.out | apply below_alloc | apply pw_below_drewN | apply below_drew1 | refine below_set ?_ GE201.out) | exact HB.out)⟩
end Go.Proofs.YtbodlnoipkommaaDoor.Q
namespace Go.Proofs.YtbodlnoipkommaaDoor.Pe
open Go.RowKit Go.Proofs.YtbodlnoipkommaaDoor.Q Go.Proofs.YtbodlnoipkommaaDoor.We Go.Proofs.YtbodlnoipkommaaDoor.Wf Go.Proofs.YtbodlnoipkommaaDoor.Wg Go.Proofs.YtbodlnoipkommaaDoor.Wh Go.Proofs.YtbodlnoipkommaaDoor.Wj Go.Proofs.YtbodlnoipkommaaDoor.Wk Go.Proofs.YtbodlnoipkommaaDoor.Wl Go.Proofs.YtbodlnoipkommaaDoor.Wo Go.Proofs.YtbodlnoipkommaaDoor.Wp Go.Proofs.YtbodlnoipkommaaDoor.Wq Go.Proofs.YtbodlnoipkommaaDoor.Ws Go.Proofs.YtbodlnoipkommaaDoor.Wt Go.Proofs.YtbodlnoipkommaaDoor.Pa Go.Proofs.YtbodlnoipkommaaDoor.Pb Go.Proofs.YtbodlnoipkommaaDoor.Pc Go.Proofs.YtbodlnoipkommaaDoor.Xd Go.Proofs.YtbodlnoipkommaaDoorW.PrintWords Go.Proofs.YtbodlnoipkommaaDoorW.PrintLast Go.Proofs.YtbodlnoipkommaaDoorW.PrintMore
theorem toList_empty : (⟨#[]⟩ : ByteArray).toList = [] := by
  rw [ByteArray.toList_eq]
theorem right_num (n : Int) : rightB 2 n ⟨#[]⟩ = true ∧ rightB 3 n ⟨#[]⟩ = true := by
  unfold rightB
  rw [toList_empty]
  exact ⟨rfl, rfl⟩
theorem asked_num (k0 n0 k1 n1 : Int) (h0 : k0 = 2 ∨ k0 = 3) (h1 : k1 = 2 ∨ k1 = 3) : askedR k0 n0 ⟨#[]⟩ k1 n1 ⟨#[]⟩ = (false, 0) := by
  unfold askedR
  rcases h0 with rfl | rfl <;> rcases h1 with rfl | rfl <;> simp only [right_num] <;> rfl
theorem print_half : value_Print.f 3 (-5000) ⟨#[]⟩ = some ⟨#[45, 48, 46, 53, 48, 48, 48]⟩ := by
  unfold value_Print.f
  rw [if_pos (by decide)]
  have hr : rightB 3 (-5000) ⟨#[]⟩ = true := (right_num _).2
  unfold printR
  rw [hr]
  simp only [show ¬ ((3 : Int) = 0) by decide, show ¬ ((3 : Int) = 1) by decide, show ¬ ((3 : Int) = 2) by decide, if_false, if_true, Bool.true_eq_false]
  have e : Lib.decDigits 15000 = [49, 53, 48, 48, 48] := by
    rw [Lib.decDigits, dif_neg (by decide), Lib.decDigits, dif_neg (by decide), Lib.decDigits, dif_neg (by decide), Lib.decDigits, dif_neg (by decide), Lib.decDigits_one (by decide)]
    rfl
  have e0 : Lib.decDigits 0 = [48] := Lib.decDigits_one (by decide)
  unfold decimalS fourS
  rw [if_pos (by decide)]
  show some (dash ++ (dec 0 ++ dot ++ (dec 15000).extract 1 (dec 15000).size)) = _
  unfold dec
  rw [e, e0]
  rfl
theorem cmp_ex : value_Compare.f 9 2 1 ⟨#[]⟩ 3 15000 ⟨#[]⟩ = some (1, 0) := by
  unfold value_Compare.f compareR; rw [if_pos (by decide)]; rw [(right_num 1).1, (right_num 15000).2]; decide
theorem add_ex : value_Add.f 2 9223372036854775807 ⟨#[]⟩ 2 1 ⟨#[]⟩ = some (0, 0, ⟨#[]⟩, 271) := by
  rw [add_f 2 9223372036854775807 ⟨#[]⟩ 2 1 ⟨#[]⟩ (by decide) (by decide)]
  unfold addR; rw [asked_num _ _ _ _ (by decide) (by decide)]; rfl
theorem mul_ex1 : value_Mul.f 3 3 1 ⟨#[]⟩ 3 5000 ⟨#[]⟩ = some (3, 0, ⟨#[]⟩, 0) := by
  rw [mul_f 0 3 1 ⟨#[]⟩ 3 5000 ⟨#[]⟩ (by decide) (by decide)]
  unfold mulR; rw [asked_num _ _ _ _ (by decide) (by decide)]; rfl
theorem mul_ex2 : value_Mul.f 3 3 3 ⟨#[]⟩ 3 5000 ⟨#[]⟩ = some (3, 2, ⟨#[]⟩, 0) := by
  rw [mul_f 0 3 3 ⟨#[]⟩ 3 5000 ⟨#[]⟩ (by decide) (by decide)]
  unfold mulR; rw [asked_num _ _ _ _ (by decide) (by decide)]; rfl
theorem right_ex : value_Right.f 1 2 7 ⟨#[]⟩ = some true := by rw [right_f, (right_num 7).1]
end Go.Proofs.YtbodlnoipkommaaDoor.Pe
namespace Go.Proofs.YtbodlnoipkommaaDoor.Xa
open Go.RowKit Go.Proofs.YtbodlnoipkommaaDoor.Q Go.Proofs.YtbodlnoipkommaaDoor.Wf Go.Proofs.YtbodlnoipkommaaDoor.Wg Go.Proofs.YtbodlnoipkommaaDoor.Wh Go.Proofs.YtbodlnoipkommaaDoor.Wi Go.Proofs.YtbodlnoipkommaaDoor.Wm Go.Proofs.YtbodlnoipkommaaDoor.Wn Go.Proofs.YtbodlnoipkommaaDoor.Wo Go.Proofs.YtbodlnoipkommaaDoor.Wp Go.Proofs.YtbodlnoipkommaaDoor.Wt Go.Proofs.YtbodlnoipkommaaDoor.Xd Go.Proofs.YtbodlnoipkommaaDoor.Pb Go.Proofs.YtbodlnoipkommaaDoor.Pe Go.Proofs.YtbodlnoipkommaaDoorW.PrintWords Go.Proofs.YtbodlnoipkommaaDoorW.PrintLast Go.Proofs.YtbodlnoipkommaaDoorW.PrintMore
abbrev vv (k n : Int) : Value := .agg #[.int .u8 k, .int .i64 n, .string ⟨#[]⟩]
theorem num_c (n : Int) (w : World) : Calls Tryd.prog 49 #[.int .i64 n] w fun e w' => e = .returned (vv 2 n) ∧ Below w.heap.size w w' := chancerylaw17_num.calls n _ _ _ w rfl
theorem dec_c (n : Int) (w : World) : Calls Tryd.prog 50 #[.int .i64 n] w fun e w' => e = .returned (vv 3 n) ∧ Below w.heap.size w w' := chancerylaw17_dec.calls n _ _ _ w rfl
set_option maxRecDepth 100000 in
set_option maxHeartbeats 4000000 in
theorem awake_calls (w : World) (hg : VOK w) : Calls Tryd.prog 15 #[] w fun e w' => e = .returned (.bool true) ∧ Below w.heap.size w w' := by
  have C := Aside0.mk (fun W => value_Compare.calls 9 2 1 ⟨#[]⟩ 3 15000 ⟨#[]⟩ _ _ W cmp_ex)
  have A := Aside0.mk (fun W => value_Add.calls 2 9223372036854775807 ⟨#[]⟩ 2 1 ⟨#[]⟩ _ _ _ _ W add_ex)
  have M1 := Aside0.mk (fun W => value_Mul.calls 3 3 1 ⟨#[]⟩ 3 5000 ⟨#[]⟩ _ _ _ _ W mul_ex1)
  have M2 := Aside0.mk (fun W => value_Mul.calls 3 3 3 ⟨#[]⟩ 3 5000 ⟨#[]⟩ _ _ _ _ W mul_ex2)
  have Pr := Aside0.mk (fun W => value_Print.calls 3 (-5000) ⟨#[]⟩ _ W print_half)
  have R := Aside0.mk (fun W => value_Right.calls 1 2 7 ⟨#[]⟩ true W right_ex)
  have An := Aside0.mk (fun W => value_And.calls 2 0 0 W rfl)
  have G := Aside0.mk hg
  have q1 : ∀ W, (binOp .eql 25 (vv 3 0) (vv 3 0)).run Tryd.prog W = .ok (.bool true) W := fun W => by kernel_rfl
  have q2 : ∀ W, (binOp .eql 25 (vv 3 2) (vv 3 2)).run Tryd.prog W = .ok (.bool true) W := fun W => by kernel_rfl
  clear hg
  go_enter Tryd.func15, Tryd.ntmps15
  go_wp2_with fail
  refine (num_c _ _).mono ?_; rintro e w1 ⟨rfl, h1⟩; replace h1 := Aside0.mk h1; go_wp2_with fail
  refine (dec_c _ _).mono ?_; rintro e w2 ⟨rfl, h2⟩; replace h2 := Aside0.mk h2; go_wp2_with fail
  refine (C.out _).mono ?_; rintro e w3 ⟨rfl, h3⟩; replace h3 := Aside0.mk h3; go_wp2_with fail
  refine (num_c _ _).mono ?_; rintro e w4 ⟨rfl, h4⟩; replace h4 := Aside0.mk h4; go_wp2_with fail
  refine (num_c _ _).mono ?_; rintro e w5 ⟨rfl, h5⟩; replace h5 := Aside0.mk h5; go_wp2_with fail
  refine (A.out _).mono ?_; rintro e w6 ⟨rfl, h6⟩; replace h6 := Aside0.mk h6; go_wp2_with fail
  refine (dec_c _ _).mono ?_; rintro e w7 ⟨rfl, h7⟩; replace h7 := Aside0.mk h7; go_wp2_with fail
  refine (dec_c _ _).mono ?_; rintro e w8 ⟨rfl, h8⟩; replace h8 := Aside0.mk h8; go_wp2_with fail
  refine (M1.out _).mono ?_; rintro e w9 ⟨rfl, h9⟩; replace h9 := Aside0.mk h9; go_wp2_with fail
  refine (dec_c _ _).mono ?_; rintro e w10 ⟨rfl, h10⟩
  obtain ⟨c10, f10, l10⟩ := bcells h10 w9.heap.size (by simp)
  replace h10 := Aside0.mk h10; go_wp2_with fail
  refine (dec_c _ _).mono ?_; rintro e w11 ⟨rfl, h11⟩
  obtain ⟨c11, f11, l11⟩ := bcells h11 w9.heap.size l10
  replace h11 := Aside0.mk h11; go_wp2_with fail
  refine (M2.out _).mono ?_; rintro e w12 ⟨rfl, h12⟩
  obtain ⟨c12, f12, l12⟩ := bcells h12 w9.heap.size l11
  replace h12 := Aside0.mk h12; go_wp2_with fail
  have Bw : Below w.heap.size w w12 := below_step (below_step (below_step (below_alloc (below_step (below_step (below_step (below_alloc (below_step (below_step (below_step (below_step (below_step (below_step (Below.refl _ _) h1.out) h2.out) h3.out) h4.out) h5.out) h6.out) _) h7.out) h8.out) h9.out) _) h10.out) h11.out) h12.out
  have G2 := Aside0.mk (VOK.below (VOK.below G.out Bw) (below_alloc (Below.refl _ _) (.cells #[.int .u8 3, .int .i64 2, .string ⟨#[]⟩] 25)))
  replace Bw := Aside0.mk Bw
  clear h1 h2 h3 h4 h5 h6 h7 h8 h9 h10 h11 h12
  obtain ⟨wz, hwz⟩ : ∃ wz, wz = w12.alloc (.cells #[.int .u8 3, .int .i64 2, .string ⟨#[]⟩] 25) := ⟨_, rfl⟩
  have ra0 : ∀ W, Below wz.heap.size wz W → W.cell? ⟨w9.heap.size, 0, none⟩ = some (.int .u8 3) := fun W h => pw_cell_below h (by subst hwz; go_simp)
  have ra1 : ∀ W, Below wz.heap.size wz W → W.cell? ⟨w9.heap.size, 1, none⟩ = some (.int .i64 0) := fun W h => pw_cell_below h (by subst hwz; go_simp)
  have ra2 : ∀ W, Below wz.heap.size wz W → W.cell? ⟨w9.heap.size, 2, none⟩ = some (.string ⟨#[]⟩) := fun W h => pw_cell_below h (by subst hwz; go_simp)
  have rb0 : ∀ W, Below wz.heap.size wz W → W.cell? ⟨w12.heap.size, 0, none⟩ = some (.int .u8 3) := fun W h => pw_cell_below h (by subst hwz; go_simp)
  have rb1 : ∀ W, Below wz.heap.size wz W → W.cell? ⟨w12.heap.size, 1, none⟩ = some (.int .i64 2) := fun W h => pw_cell_below h (by subst hwz; go_simp)
  have rb2 : ∀ W, Below wz.heap.size wz W → W.cell? ⟨w12.heap.size, 2, none⟩ = some (.string ⟨#[]⟩) := fun W h => pw_cell_below h (by subst hwz; go_simp)
  have Bz : Below w.heap.size w wz := by rw [hwz]; exact below_alloc Bw.out _
  replace Bz := Aside0.mk Bz
  rw [← hwz] at G2
  rw [← hwz]
  clear c10 c11 c12 f10 f11 f12 l10 l11 l12 hwz Bw
  have St0 := Aside0.mk (show Below wz.heap.size wz wz.drew from below_drew1 (Below.refl _ _))
  go_region_held3 (fun W => Below wz.heap.size wz W)
    (first | (with_reducible exact St0.out) | (with_reducible exact below_step (by assumption) hb) | (with_reducible exact pw_below_drewN (by assumption) _))
    (first | (((with_reducible refine (dec_c _ _).mono ?_); rintro e w' ⟨rfl, hb⟩)) | (((with_reducible refine (num_c _ _).mono ?_); rintro e w' ⟨rfl, hb⟩)) | (((with_reducible refine (An.out _ (VOK.below G2.out (by assumption))).mono ?_); rintro e w' ⟨rfl, ⟨nn, rfl⟩⟩)) | (((with_reducible refine (Pr.out _ (VOK.below G2.out (by assumption))).mono ?_); rintro e w' ⟨rfl, hb⟩)) | (((with_reducible refine (R.out _).mono ?_); rintro e w' ⟨rfl, hb⟩)))
  go_wp2
  go_ret
  exact ⟨rfl, below_step Bz.out (by first | assumption | exact below_step (by assumption) hb)⟩
def chancerylaw17_awake.f : Option Bool := some true
theorem chancerylaw17_awake.calls (r : Bool) (w : World) (h : chancerylaw17_awake.f = some r) (hg : VOK w) : Calls Tryd.prog 15 #[] w fun e w' => e = .returned (.bool r) ∧ Below w.heap.size w w' := by
  injection h with h
  subst h
  exact awake_calls w hg
end Go.Proofs.YtbodlnoipkommaaDoor.Xa

/- Merged out of this session's texts: Qxf10 -/
import Derived.Test.YtbodlnoipkommaaDoorZc3
import Derived.Test.YtbodlnoipkommaaDoorZc7
import Derived.Test.YtbodlnoipkommaaDoorZc8
import Derived.Test.YtbodlnoipkommaaDoorZc6
namespace Go.Proofs.YtbodlnoipkommaaDoor.Q
open Go.Proofs.YtbodlnoipkommaaDoor.Rc
open Go.RowKit Go.Proofs.YtbodlnoipkommaaDoorW.PrintWords Go.Proofs.YtbodlnoipkommaaDoorW.PrintLast Go.Proofs.YtbodlnoipkommaaDoorW.PrintMore
attribute [local go_sem] max2_int min2_int max_two min_two max_three min_three max_four min_four   -- for this text's walks alone
set_option linter.unusedVariables false
set_option linter.unusedSimpArgs false
mutual
def chanceryref17_Compare.j0 : Nat → Int → Bool → Int → Int → ByteArray → Int → Int → ByteArray → Option (Int × Int)
  | 0, _, _, _, _, _, _, _, _ => none
  | k + 1, x0, x26, x323000, x323001, x323002, x324000, x324001, x324002 => if x26 = true then (some (0, 2)) else (if x323000 = 0 then (chanceryref17_Compare.j1 k x0 true x323000 x323001 x323002 x324000 x324001 x324002) else (chanceryref17_Compare.j1 k x0 (x324000 == 0) x323000 x323001 x323002 x324000 x324001 x324002))
def chanceryref17_Compare.j1 : Nat → Int → Bool → Int → Int → ByteArray → Int → Int → ByteArray → Option (Int × Int)
  | 0, _, _, _, _, _, _, _, _ => none
  | k + 1, x0, x34, x323000, x323001, x323002, x324000, x324001, x324002 => if x34 = true then (some (2, 0)) else ((chanceryref17_Order.f x323000 x323001 x323002 x324000 x324001 x324002).bind fun t326 => (if x323000 = x324000 then (chanceryref17_Compare.j3 k x0 t326) else ((chanceryref17_number.f x323000 x323001 x323002).bind fun t327 => (if t327 = true then ((chanceryref17_number.f x324000 x324001 x324002).bind fun t328 => (chanceryref17_Compare.j2 k x0 (!t328) x323000 x323001 x323002 x324000 x324001 x324002)) else (chanceryref17_Compare.j2 k x0 true x323000 x323001 x323002 x324000 x324001 x324002)))))
def chanceryref17_Compare.j3 : Nat → Int → Int → Option (Int × Int)
  | 0, _, _ => none
  | k + 1, x0, x8 => if x0 = 7 then (if x8 = 0 then (some (1, 0)) else (some (0, 0))) else (if x0 = 8 then (if x8 = 0 then (some (0, 0)) else (some (1, 0))) else (if x0 = 9 then (if x8 < 0 then (some (1, 0)) else (some (0, 0))) else (if x0 = 10 then (if x8 ≤ 0 then (some (1, 0)) else (some (0, 0))) else (if x0 = 11 then (if x8 > 0 then (some (1, 0)) else (some (0, 0))) else (if x0 = 12 then (if x8 ≥ 0 then (some (1, 0)) else (some (0, 0))) else (some (0, 0)))))))
def chanceryref17_Compare.j2 : Nat → Int → Bool → Int → Int → ByteArray → Int → Int → ByteArray → Option (Int × Int)
  | 0, _, _, _, _, _, _, _, _ => none
  | k + 1, x0, x50, x323000, x323001, x323002, x324000, x324001, x324002 => if x50 = true then (some (0, 270)) else ((chanceryref17_fixed.f x324000 x324001 x324002).bind fun bt329 => ((chanceryref17_fixed.f x323000 x323001 x323002).bind fun bt336 => ((chanceryref17_add.f bt336.1 bt336.2.1 bt336.2.2.1 bt336.2.2.2.1 bt336.2.2.2.2.1 bt336.2.2.2.2.2 (!bt329.1) bt329.2.1 bt329.2.2.1 bt329.2.2.2.1 bt329.2.2.2.2.1 bt329.2.2.2.2.2).bind fun bt342 => ((chanceryref17_sign.f bt342.1 bt342.2.1 bt342.2.2.1 bt342.2.2.2.1 bt342.2.2.2.2.1 bt342.2.2.2.2.2).bind fun t348 => (chanceryref17_Compare.j3 k x0 t348)))))
end
def chanceryref17_Compare.f (k : Nat) (a0 : Int) (a1_0 : Int) (a1_1 : Int) (a1_2 : ByteArray) (a2_0 : Int) (a2_1 : Int) (a2_2 : ByteArray) : Option (Int × Int) := if a0 < 7 then (chanceryref17_Compare.j0 k a0 true a1_0 a1_1 a1_2 a2_0 a2_1 a2_2) else (if a0 > 12 then (chanceryref17_Compare.j0 k a0 true a1_0 a1_1 a1_2 a2_0 a2_1 a2_2) else ((chanceryref17_Right.f k a1_0 a1_1 a1_2).bind fun t324 => (if t324 = true then ((chanceryref17_Right.f k a2_0 a2_1 a2_2).bind fun t325 => (chanceryref17_Compare.j0 k a0 (!t325) a1_0 a1_1 a1_2 a2_0 a2_1 a2_2)) else (chanceryref17_Compare.j0 k a0 true a1_0 a1_1 a1_2 a2_0 a2_1 a2_2))))
set_option maxHeartbeats 8000000 in
set_option maxRecDepth 100000 in
theorem chanceryref17_Compare.calls (k : Nat) (a0 : Int) (a1_0 : Int) (a1_1 : Int) (a1_2 : ByteArray) (a2_0 : Int) (a2_1 : Int) (a2_2 : ByteArray) (r1 : Int) (r2 : Int) (w : World) (h : chanceryref17_Compare.f k a0 a1_0 a1_1 a1_2 a2_0 a2_1 a2_2 = some (r1, r2)) :
    Calls Tryd.prog 10 #[.int .u8 a0, .agg #[.int .u8 a1_0, .int .i64 a1_1, .string a1_2], .agg #[.int .u8 a2_0, .int .i64 a2_1, .string a2_2]] w fun e w' => e = .returned (.tuple #[.int .u8 r1, .int .i64 r2]) ∧ Below w.heap.size w w' := by
  have hu25 := Tryd.underlying25
  have hu56 := Tryd.underlying56
  have HB := Aside0.mk (Below.refl w.heap.size w)
  have H : (if a0 < 7 then (chanceryref17_Compare.j0 k a0 true a1_0 a1_1 a1_2 a2_0 a2_1 a2_2) else (if a0 > 12 then (chanceryref17_Compare.j0 k a0 true a1_0 a1_1 a1_2 a2_0 a2_1 a2_2) else ((chanceryref17_Right.f k a1_0 a1_1 a1_2).bind fun t324 => (if t324 = true then ((chanceryref17_Right.f k a2_0 a2_1 a2_2).bind fun t325 => (chanceryref17_Compare.j0 k a0 (!t325) a1_0 a1_1 a1_2 a2_0 a2_1 a2_2)) else (chanceryref17_Compare.j0 k a0 true a1_0 a1_1 a1_2 a2_0 a2_1 a2_2))))) = some (r1, r2) := h
  clear h
  have HC4 := Aside0.mk H
  clear H
  go_enter Tryd.func10, Tryd.ntmps10
  go_upto_region 1 with (first | ((with_reducible refine gate_dst (N := 4) rfl ?_); refine box_event ?hg (N := 4) ?hd (cs := #[.int .u8 a1_0, .int .i64 a1_1, .string a1_2]) (t := 25) ?hr ?_; (case hd => rfl); (case hg => rfl); (case hr => first | (go_simp; done) | (go_simp; rfl)); intro gb322 hg w5 hbox hb; have n0_ := Aside0.mk (below_step (by repeat (first | (with_reducible first | exact HB.out | apply below_alloc | apply pw_below_drewN | apply below_drew1) | exact HB.out)) hb); have n1_ := Aside0.mk (hbox); have n2_ := Aside0.mk ((by rw [hg]; exact (below_size (by repeat (first | (with_reducible first | exact HB.out | apply below_alloc | apply pw_below_drewN | apply below_drew1) | exact HB.out))) : w.heap.size ≤ gb322)); have n3_ := Aside0.mk ((by rw [hg]; exact (below_size (by repeat (first | (with_reducible first | exact HB.out | apply below_alloc | apply pw_below_drewN | apply below_drew1) | exact HB.out))) : w.heap.size ≤ gb322)); clear HB; have HB := n0_; have BK322 := n1_; have GW322 := n2_; have GE322 := n3_; clear n0_ n1_ n2_ n3_; clear hb hbox hg) | ((with_reducible refine gate_dst (N := 5) rfl ?_); refine box_event ?hg (N := 5) ?hd (cs := #[.int .u8 a2_0, .int .i64 a2_1, .string a2_2]) (t := 25) ?hr ?_; (case hd => rfl); (case hg => rfl); (case hr => first | (go_simp; done) | (go_simp; rfl)); intro gb323 hg w6 hbox hb; have n0_ := Aside0.mk (blk_below (g := gb322) (o := .cells #[.int .u8 a1_0, .int .i64 a1_1, .string a1_2] 25 (0, 0)) (by (with_reducible repeat (first | refine blk_drewN ?_ _ | refine blk_drew ?_ | refine blk_alloc ?_ _)); exact BK322.out) hb); have n1_ := Aside0.mk (below_step (by repeat (first | (with_reducible first | exact HB.out | apply below_alloc | apply pw_below_drewN | apply below_drew1 | refine below_set ?_ GE322.out) | exact HB.out)) hb); have n2_ := Aside0.mk (hbox); have n3_ := Aside0.mk ((by rw [hg]; exact (below_size (by repeat (first | (with_reducible first | exact HB.out | apply below_alloc | apply pw_below_drewN | apply below_drew1 | refine below_set ?_ GE322.out) | exact HB.out))) : w.heap.size ≤ gb323)); have n4_ := Aside0.mk ((by rw [hg]; exact (below_size (by repeat (first | (with_reducible first | exact HB.out | apply below_alloc | apply pw_below_drewN | apply below_drew1 | refine below_set ?_ GE322.out) | exact HB.out))) : w.heap.size ≤ gb323)); have n5_ := Aside0.mk ((by rw [hg]; exact Nat.ne_of_lt (blk_lt (g := gb322) (o := .cells #[.int .u8 a1_0, .int .i64 a1_1, .string a1_2] 25 (0, 0)) (by (with_reducible repeat (first | refine blk_drewN ?_ _ | refine blk_drew ?_ | refine blk_alloc ?_ _)); exact BK322.out)) : gb322 ≠ gb323)); have n6_ := Aside0.mk ((by rw [hg]; exact Nat.ne_of_gt (blk_lt (g := gb322) (o := .cells #[.int .u8 a1_0, .int .i64 a1_1, .string a1_2] 25 (0, 0)) (by (with_reducible repeat (first | refine blk_drewN ?_ _ | refine blk_drew ?_ | refine blk_alloc ?_ _)); exact BK322.out)) : gb323 ≠ gb322)); clear BK322; clear HB; have BK322 := n0_; have HB := n1_; have BK323 := n2_; have GW323 := n3_; have GE323 := n4_; have NB322_323 := n5_; have NB323_322 := n6_; clear n0_ n1_ n2_ n3_ n4_ n5_ n6_; clear hb hbox hg))
  (try simp only [Act.put, List.setIfInBounds_toArray, List.set_cons_zero, List.set_cons_succ])
  go_cut [26] (fun v26 wc => ∃ (kq : Nat) (x26_3 : Bool), v26 = .bool x26_3 ∧ Aside0 (chanceryref17_Compare.j0 kq a0 x26_3 a1_0 a1_1 a1_2 a2_0 a2_1 a2_2 = some (r1, r2)) ∧ Aside0 (kq ≤ k) ∧ Aside0 (wc.heap[gb322]? = some (.cells #[.int .u8 a1_0, .int .i64 a1_1, .string a1_2] 25 (0, 0))) ∧ Aside0 (wc.heap[gb323]? = some (.cells #[.int .u8 a2_0, .int .i64 a2_1, .string a2_2] 25 (0, 0))) ∧ Aside0 (Below w.heap.size w wc))
  case first =>
    have H := HC4.out
    clear HC4
    by_cases c7 : a0 < 7
    · rw [if_pos c7] at H
      have c7b0 : decide (a0 < 7) = true := decide_eq_true c7
      clear c7
      (first | rw [c7b0] | (simp only [i64_w, i32_w]; rw [c7b0]) | skip)
      have H' := Aside0.mk H
      clear H
      go_wp2
      go_meet
      case rel => exact ⟨_, (true), (by first | rfl | (simp; done) | (simp [*]; done)), H', ⟨by first | omega | exact Nat.le_refl _⟩, ⟨by (with_reducible repeat (first | refine blk_drewN ?_ _ | refine blk_drew ?_ | refine blk_alloc ?_ _)); exact BK322.out⟩, ⟨by (with_reducible repeat (first | refine blk_drewN ?_ _ | refine blk_drew ?_ | refine blk_alloc ?_ _)); exact BK323.out⟩, ⟨by repeat (first | (with_reducible first | exact HB.out | apply below_alloc | apply pw_below_drewN | apply below_drew1 | refine below_set ?_ GE322.out | refine below_set ?_ GE323.out) | exact HB.out)⟩⟩
    · rw [if_neg c7] at H
      have c7b0 : decide (a0 < 7) = false := decide_eq_false c7
      clear c7
      (first | rw [c7b0] | (simp only [i64_w, i32_w]; rw [c7b0]) | skip)
      by_cases c8 : a0 > 12
      · rw [if_pos c8] at H
        have c8b0 : decide (12 < a0) = true := decide_eq_true c8
        clear c8
        have H' := Aside0.mk H
        clear H
        go_wp2
        go_meet
        case rel => exact ⟨_, (true), (by first | rfl | (simp; done) | (simp [*]; done)), H', ⟨by first | omega | exact Nat.le_refl _⟩, ⟨by (with_reducible repeat (first | refine blk_drewN ?_ _ | refine blk_drew ?_ | refine blk_alloc ?_ _)); exact BK322.out⟩, ⟨by (with_reducible repeat (first | refine blk_drewN ?_ _ | refine blk_drew ?_ | refine blk_alloc ?_ _)); exact BK323.out⟩, ⟨by repeat (first | (with_reducible first | exact HB.out | apply below_alloc | apply pw_below_drewN | apply below_drew1 | refine below_set ?_ GE322.out | refine below_set ?_ GE323.out) | exact HB.out)⟩⟩
      · rw [if_neg c8] at H
        have c8b0 : decide (12 < a0) = false := decide_eq_false c8
        clear c8
        replace H := Option.bind_eq_some_iff.mp H
        obtain ⟨t324, A90, H⟩ := H
        replace H : (if t324 = true then ((chanceryref17_Right.f k a2_0 a2_1 a2_2).bind fun t325 => (chanceryref17_Compare.j0 k a0 (!t325) a1_0 a1_1 a1_2 a2_0 a2_1 a2_2)) else (chanceryref17_Compare.j0 k a0 true a1_0 a1_1 a1_2 a2_0 a2_1 a2_2)) = some (r1, r2) := H
        have A9 := Aside0.mk A90
        clear A90
        by_cases c10 : t324 = true
        · subst c10
          have H1 : ((chanceryref17_Right.f k a2_0 a2_1 a2_2).bind fun t325 => (chanceryref17_Compare.j0 k a0 (!t325) a1_0 a1_1 a1_2 a2_0 a2_1 a2_2)) = some (r1, r2) := by rw [if_pos rfl] at H; exact H
          clear H
          have H := H1
          clear H1
          replace H := Option.bind_eq_some_iff.mp H
          obtain ⟨t325, A110, H⟩ := H
          replace H : (chanceryref17_Compare.j0 k a0 (!t325) a1_0 a1_1 a1_2 a2_0 a2_1 a2_2) = some (r1, r2) := H
          have A11 := Aside0.mk A110
          clear A110
          have H' := Aside0.mk H
          clear H
          have hnb12 := NB322_323.out
          have hnc12 := NB323_322.out
          have hcz13_0 : w6.cell? ⟨gb322, 0, none⟩ = some (.int .u8 a1_0) := (blk_cell BK322.out 0).trans rfl
          have hcz13_1 : w6.cell? ⟨gb322, 1, none⟩ = some (.int .i64 a1_1) := (blk_cell BK322.out 1).trans rfl
          have hcz13_2 : w6.cell? ⟨gb322, 2, none⟩ = some (.string a1_2) := (blk_cell BK322.out 2).trans rfl
          have hfz13_0 := blk_frozen BK322.out 0
          have hfz13_1 := blk_frozen BK322.out 1
          have hfz13_2 := blk_frozen BK322.out 2
          go_wp2_with (first | (go_at_call 14; (with_reducible refine (chanceryref17_Right.calls k a1_0 a1_1 a1_2 true _ A9.out).mono ?_); rintro e w14 ⟨rfl, hb⟩; have n0_ := Aside0.mk (blk_below (g := gb322) (o := .cells #[.int .u8 a1_0, .int .i64 a1_1, .string a1_2] 25 (0, 0)) (by (with_reducible repeat (first | refine blk_drewN ?_ _ | refine blk_drew ?_ | refine blk_alloc ?_ _)); exact BK322.out) hb); have n1_ := Aside0.mk (blk_below (g := gb323) (o := .cells #[.int .u8 a2_0, .int .i64 a2_1, .string a2_2] 25 (0, 0)) (by (with_reducible repeat (first | refine blk_drewN ?_ _ | refine blk_drew ?_ | refine blk_alloc ?_ _)); exact BK323.out) hb); have n2_ := Aside0.mk (below_step (by repeat (first | (with_reducible first | exact HB.out | apply below_alloc | apply pw_below_drewN | apply below_drew1 | refine below_set ?_ GE322.out | refine below_set ?_ GE323.out) | exact HB.out)) hb); clear BK322; clear BK323; clear HB; have BK322 := n0_; have BK323 := n1_; have HB := n2_; clear n0_ n1_ n2_; (try clear hb); (try clear hb2); (try clear hk); (try clear hi); have hcz15_0 : w14.cell? ⟨gb323, 0, none⟩ = some (.int .u8 a2_0) := (blk_cell BK323.out 0).trans rfl; have hcz15_1 : w14.cell? ⟨gb323, 1, none⟩ = some (.int .i64 a2_1) := (blk_cell BK323.out 1).trans rfl; have hcz15_2 : w14.cell? ⟨gb323, 2, none⟩ = some (.string a2_2) := (blk_cell BK323.out 2).trans rfl; have hfz15_0 := blk_frozen BK323.out 0; have hfz15_1 := blk_frozen BK323.out 1; have hfz15_2 := blk_frozen BK323.out 2) | (go_at_call 14; (with_reducible refine (chanceryref17_Right.calls k a2_0 a2_1 a2_2 t325 _ A11.out).mono ?_); rintro e w16 ⟨rfl, hb⟩; have n0_ := Aside0.mk (blk_below (g := gb322) (o := .cells #[.int .u8 a1_0, .int .i64 a1_1, .string a1_2] 25 (0, 0)) (by (with_reducible repeat (first | refine blk_drewN ?_ _ | refine blk_drew ?_ | refine blk_alloc ?_ _)); exact BK322.out) hb); have n1_ := Aside0.mk (blk_below (g := gb323) (o := .cells #[.int .u8 a2_0, .int .i64 a2_1, .string a2_2] 25 (0, 0)) (by (with_reducible repeat (first | refine blk_drewN ?_ _ | refine blk_drew ?_ | refine blk_alloc ?_ _)); exact BK323.out) hb); have n2_ := Aside0.mk (below_step (by repeat (first | (with_reducible first | exact HB.out | apply below_alloc | apply pw_below_drewN | apply below_drew1 | refine below_set ?_ GE322.out | refine below_set ?_ GE323.out) | exact HB.out)) hb); clear BK322; clear BK323; clear HB; have BK322 := n0_; have BK323 := n1_; have HB := n2_; clear n0_ n1_ n2_; (try clear hb); (try clear hb2); (try clear hk); (try clear hi)))
          go_meet
          case rel => exact ⟨_, (!t325), (by first | rfl | (simp; done) | (simp [*]; done)), H', ⟨by first | omega | exact Nat.le_refl _⟩, ⟨by (with_reducible repeat (first | refine blk_drewN ?_ _ | refine blk_drew ?_ | refine blk_alloc ?_ _)); exact BK322.out⟩, ⟨by (with_reducible repeat (first | refine blk_drewN ?_ _ | refine blk_drew ?_ | refine blk_alloc ?_ _)); exact BK323.out⟩, ⟨by repeat (first | (with_reducible first | exact HB.out | apply below_alloc | apply pw_below_drewN | apply below_drew1 | refine below_set ?_ GE322.out | refine below_set ?_ GE323.out) | exact HB.out)⟩⟩
        · replace c10 := Bool.eq_false_iff.mpr c10
          subst c10
          have H1 : (chanceryref17_Compare.j0 k a0 true a1_0 a1_1 a1_2 a2_0 a2_1 a2_2) = some (r1, r2) := by rw [if_neg (show ¬ (false = true) by decide)] at H; exact H
          clear H
          have H := H1
          clear H1
          have H' := Aside0.mk H
          clear H
          have hnb17 := NB322_323.out
          have hnc17 := NB323_322.out
          have hcz18_0 : w6.cell? ⟨gb322, 0, none⟩ = some (.int .u8 a1_0) := (blk_cell BK322.out 0).trans rfl
          have hcz18_1 : w6.cell? ⟨gb322, 1, none⟩ = some (.int .i64 a1_1) := (blk_cell BK322.out 1).trans rfl
          have hcz18_2 : w6.cell? ⟨gb322, 2, none⟩ = some (.string a1_2) := (blk_cell BK322.out 2).trans rfl
          have hfz18_0 := blk_frozen BK322.out 0
          have hfz18_1 := blk_frozen BK322.out 1
          have hfz18_2 := blk_frozen BK322.out 2
          go_wp2_with (first | (go_at_call 14; (with_reducible refine (chanceryref17_Right.calls k a1_0 a1_1 a1_2 false _ A9.out).mono ?_); rintro e w19 ⟨rfl, hb⟩; have n0_ := Aside0.mk (blk_below (g := gb322) (o := .cells #[.int .u8 a1_0, .int .i64 a1_1, .string a1_2] 25 (0, 0)) (by (with_reducible repeat (first | refine blk_drewN ?_ _ | refine blk_drew ?_ | refine blk_alloc ?_ _)); exact BK322.out) hb); have n1_ := Aside0.mk (blk_below (g := gb323) (o := .cells #[.int .u8 a2_0, .int .i64 a2_1, .string a2_2] 25 (0, 0)) (by (with_reducible repeat (first | refine blk_drewN ?_ _ | refine blk_drew ?_ | refine blk_alloc ?_ _)); exact BK323.out) hb); have n2_ := Aside0.mk (below_step (by repeat (first | (with_reducible first | exact HB.out | apply below_alloc | apply pw_below_drewN | apply below_drew1 | refine below_set ?_ GE322.out | refine below_set ?_ GE323.out) | exact HB.out)) hb); clear BK322; clear BK323; clear HB; have BK322 := n0_; have BK323 := n1_; have HB := n2_; clear n0_ n1_ n2_; (try clear hb); (try clear hb2); (try clear hk); (try clear hi)))
          go_meet
          case rel => exact ⟨_, (true), (by first | rfl | (simp; done) | (simp [*]; done)), H', ⟨by first | omega | exact Nat.le_refl _⟩, ⟨by (with_reducible repeat (first | refine blk_drewN ?_ _ | refine blk_drew ?_ | refine blk_alloc ?_ _)); exact BK322.out⟩, ⟨by (with_reducible repeat (first | refine blk_drewN ?_ _ | refine blk_drew ?_ | refine blk_alloc ?_ _)); exact BK323.out⟩, ⟨by repeat (first | (with_reducible first | exact HB.out | apply below_alloc | apply pw_below_drewN | apply below_drew1 | refine below_set ?_ GE322.out | refine below_set ?_ GE323.out) | exact HB.out)⟩⟩
  case rest =>
    clear HC4
    try clear c1
    try clear p2
    try clear c7
    try clear c7b0
    try clear c8
    try clear c8b0
    try clear c10
    try clear c12
    try clear c17
    try clear hcz13_0
    try clear hcz13_1
    try clear hcz13_2
    try clear hcz15_0
    try clear hcz15_1
    try clear hcz15_2
    try clear hcz18_0
    try clear hcz18_1
    try clear hcz18_2
    try clear hfz13_0
    try clear hfz13_1
    try clear hfz13_2
    try clear hfz15_0
    try clear hfz15_1
    try clear hfz15_2
    try clear hfz18_0
    try clear hfz18_1
    try clear hfz18_2
    obtain ⟨kq, x26_3, rfl, HA, HJ3, BK322, BK323, HB⟩ := hcut
    cases kq with
    | zero => exact absurd HA.out (by simp [chanceryref17_Compare.j0])
    | succ kj3 =>
      have H := HA.out
      clear HA
      simp only [chanceryref17_Compare.j0] at H
      by_cases c20 : x26_3 = true
      · subst c20
        have H1 : (some (0, 2)) = some (r1, r2) := by rw [if_pos rfl] at H; exact H
        clear H
        have H := H1
        clear H1
        simp only [Option.some.injEq, Prod.mk.injEq] at H
        obtain ⟨rfl, rfl⟩ := H
        go_wp2
        go_ret2
        exact ⟨by first | rfl | (simp [errW_none, errW_some] <;> rfl) | (simp [*, errW_none, errW_some] <;> rfl), by repeat (first | (with_reducible first | exact HB.out | apply below_alloc | apply pw_below_drewN | apply below_drew1 | refine below_set ?_ GE322.out | refine below_set ?_ GE323.out) | exact HB.out)⟩
      · replace c20 := Bool.eq_false_iff.mpr c20
        subst c20
        have H1 : (if a1_0 = 0 then (chanceryref17_Compare.j1 kj3 a0 true a1_0 a1_1 a1_2 a2_0 a2_1 a2_2) else (chanceryref17_Compare.j1 kj3 a0 (a2_0 == 0) a1_0 a1_1 a1_2 a2_0 a2_1 a2_2)) = some (r1, r2) := by rw [if_neg (show ¬ (false = true) by decide)] at H; exact H
        clear H
        have H := H1
        clear H1
        have HC21 := Aside0.mk H
        clear H
        go_upto_region 3 with (fail)
        go_cut [34] (fun v34 wc => ∃ (kq : Nat) (x34_20 : Bool), v34 = .bool x34_20 ∧ Aside0 (chanceryref17_Compare.j1 kq a0 x34_20 a1_0 a1_1 a1_2 a2_0 a2_1 a2_2 = some (r1, r2)) ∧ Aside0 (kq ≤ kj3) ∧ Aside0 (wc.heap[gb322]? = some (.cells #[.int .u8 a1_0, .int .i64 a1_1, .string a1_2] 25 (0, 0))) ∧ Aside0 (wc.heap[gb323]? = some (.cells #[.int .u8 a2_0, .int .i64 a2_1, .string a2_2] 25 (0, 0))) ∧ Aside0 (Below w.heap.size w wc))
        case first =>
          have H := HC21.out
          clear HC21
          by_cases c22 : a1_0 = 0
          · rw [if_pos c22] at H
            have c22b0 : (a1_0 == 0) = true := beq_iff_eq.mpr c22
            have c22b1 : (a1_0 != 0) = false := bne_eq_false_iff_eq.mpr c22
            clear c22
            (first | rw [c22b0] | (simp only [i64_w, i32_w]; rw [c22b0]) | skip)
            have H' := Aside0.mk H
            clear H
            have hnb23 := NB322_323.out
            have hnc23 := NB323_322.out
            have hcz24_0 : wc.cell? ⟨gb322, 0, none⟩ = some (.int .u8 a1_0) := (blk_cell BK322.out 0).trans rfl
            have hcz24_1 : wc.cell? ⟨gb322, 1, none⟩ = some (.int .i64 a1_1) := (blk_cell BK322.out 1).trans rfl
            have hcz24_2 : wc.cell? ⟨gb322, 2, none⟩ = some (.string a1_2) := (blk_cell BK322.out 2).trans rfl
            have hfz24_0 := blk_frozen BK322.out 0
            have hfz24_1 := blk_frozen BK322.out 1
            have hfz24_2 := blk_frozen BK322.out 2
            go_wp2
            go_meet
            case rel => exact ⟨_, (true), (by first | rfl | (simp; done) | (simp [*]; done)), H', ⟨by have := HJ3.out; first | omega | exact Nat.le_refl _⟩, ⟨by (with_reducible repeat (first | refine blk_drewN ?_ _ | refine blk_drew ?_ | refine blk_alloc ?_ _)); exact BK322.out⟩, ⟨by (with_reducible repeat (first | refine blk_drewN ?_ _ | refine blk_drew ?_ | refine blk_alloc ?_ _)); exact BK323.out⟩, ⟨by repeat (first | (with_reducible first | exact HB.out | apply below_alloc | apply pw_below_drewN | apply below_drew1 | refine below_set ?_ GE322.out | refine below_set ?_ GE323.out) | exact HB.out)⟩⟩
          · rw [if_neg c22] at H
            have c22b0 : (a1_0 == 0) = false := beq_eq_false_iff_ne.mpr c22
            have c22b1 : (a1_0 != 0) = true := bne_iff_ne.mpr c22
            (first | rw [c22b0] | (simp only [i64_w, i32_w]; rw [c22b0]) | skip)
            have H' := Aside0.mk H
            clear H
            have hnb25 := NB322_323.out
            have hnc25 := NB323_322.out
            have hcz26_0 : wc.cell? ⟨gb322, 0, none⟩ = some (.int .u8 a1_0) := (blk_cell BK322.out 0).trans rfl
            have hcz26_1 : wc.cell? ⟨gb322, 1, none⟩ = some (.int .i64 a1_1) := (blk_cell BK322.out 1).trans rfl
            have hcz26_2 : wc.cell? ⟨gb322, 2, none⟩ = some (.string a1_2) := (blk_cell BK322.out 2).trans rfl
            have hfz26_0 := blk_frozen BK322.out 0
            have hfz26_1 := blk_frozen BK322.out 1
            have hfz26_2 := blk_frozen BK322.out 2
            have hcz27_0 : wc.cell? ⟨gb323, 0, none⟩ = some (.int .u8 a2_0) := (blk_cell BK323.out 0).trans rfl
            have hcz27_1 : wc.cell? ⟨gb323, 1, none⟩ = some (.int .i64 a2_1) := (blk_cell BK323.out 1).trans rfl
            have hcz27_2 : wc.cell? ⟨gb323, 2, none⟩ = some (.string a2_2) := (blk_cell BK323.out 2).trans rfl
            have hfz27_0 := blk_frozen BK323.out 0
            have hfz27_1 := blk_frozen BK323.out 1
            have hfz27_2 := blk_frozen BK323.out 2
            go_wp2
            go_meet
            case rel => exact ⟨_, ((a2_0 == 0)), (by first | rfl | (simp; done) | (simp [*]; done)), H', ⟨by have := HJ3.out; first | omega | exact Nat.le_refl _⟩, ⟨by (with_reducible repeat (first | refine blk_drewN ?_ _ | refine blk_drew ?_ | refine blk_alloc ?_ _)); exact BK322.out⟩, ⟨by (with_reducible repeat (first | refine blk_drewN ?_ _ | refine blk_drew ?_ | refine blk_alloc ?_ _)); exact BK323.out⟩, ⟨by repeat (first | (with_reducible first | exact HB.out | apply below_alloc | apply pw_below_drewN | apply below_drew1 | refine below_set ?_ GE322.out | refine below_set ?_ GE323.out) | exact HB.out)⟩⟩
        case rest =>
          clear HC21
          try clear c1
          try clear c2
          try clear p2
          try clear c7
          try clear c7b0
          try clear c8
          try clear c8b0
          try clear c10
          try clear c12
          try clear c17
          try clear c20
          try clear c22
          try clear c22b0
          try clear c22b1
          try clear c23
          try clear c25
          try clear hcz13_0
          try clear hcz13_1
          try clear hcz13_2
          try clear hcz15_0
          try clear hcz15_1
          try clear hcz15_2
          try clear hcz18_0
          try clear hcz18_1
          try clear hcz18_2
          try clear hcz24_0
          try clear hcz24_1
          try clear hcz24_2
          try clear hcz26_0
          try clear hcz26_1
          try clear hcz26_2
          try clear hcz27_0
          try clear hcz27_1
          try clear hcz27_2
          try clear hfz13_0
          try clear hfz13_1
          try clear hfz13_2
          try clear hfz15_0
          try clear hfz15_1
          try clear hfz15_2
          try clear hfz18_0
          try clear hfz18_1
          try clear hfz18_2
          try clear hfz24_0
          try clear hfz24_1
          try clear hfz24_2
          try clear hfz26_0
          try clear hfz26_1
          try clear hfz26_2
          try clear hfz27_0
          try clear hfz27_1
          try clear hfz27_2
          try clear p2
          obtain ⟨kq, x34_20, rfl, HA, HJ20, BK322, BK323, HB⟩ := hcut
          cases kq with
          | zero => exact absurd HA.out (by simp [chanceryref17_Compare.j1])
          | succ kj20 =>
            have H := HA.out
            clear HA
            simp only [chanceryref17_Compare.j1] at H
            by_cases c28 : x34_20 = true
            · subst c28
              have H1 : (some (2, 0)) = some (r1, r2) := by rw [if_pos rfl] at H; exact H
              clear H
              have H := H1
              clear H1
              simp only [Option.some.injEq, Prod.mk.injEq] at H
              obtain ⟨rfl, rfl⟩ := H
              go_wp2
              go_ret2
              exact ⟨by first | rfl | (simp [errW_none, errW_some] <;> rfl) | (simp [*, errW_none, errW_some] <;> rfl), by repeat (first | (with_reducible first | exact HB.out | apply below_alloc | apply pw_below_drewN | apply below_drew1 | refine below_set ?_ GE322.out | refine below_set ?_ GE323.out) | exact HB.out)⟩
            · replace c28 := Bool.eq_false_iff.mpr c28
              subst c28
              have H1 : ((chanceryref17_Order.f a1_0 a1_1 a1_2 a2_0 a2_1 a2_2).bind fun t326 => (if a1_0 = a2_0 then (chanceryref17_Compare.j3 kj20 a0 t326) else ((chanceryref17_number.f a1_0 a1_1 a1_2).bind fun t327 => (if t327 = true then ((chanceryref17_number.f a2_0 a2_1 a2_2).bind fun t328 => (chanceryref17_Compare.j2 kj20 a0 (!t328) a1_0 a1_1 a1_2 a2_0 a2_1 a2_2)) else (chanceryref17_Compare.j2 kj20 a0 true a1_0 a1_1 a1_2 a2_0 a2_1 a2_2))))) = some (r1, r2) := by rw [if_neg (show ¬ (false = true) by decide)] at H; exact H
              clear H
              have H := H1
              clear H1
              replace H := Option.bind_eq_some_iff.mp H
              obtain ⟨t326, A290, H⟩ := H
              replace H : (if a1_0 = a2_0 then (chanceryref17_Compare.j3 kj20 a0 t326) else ((chanceryref17_number.f a1_0 a1_1 a1_2).bind fun t327 => (if t327 = true then ((chanceryref17_number.f a2_0 a2_1 a2_2).bind fun t328 => (chanceryref17_Compare.j2 kj20 a0 (!t328) a1_0 a1_1 a1_2 a2_0 a2_1 a2_2)) else (chanceryref17_Compare.j2 kj20 a0 true a1_0 a1_1 a1_2 a2_0 a2_1 a2_2)))) = some (r1, r2) := H
              have A29 := Aside0.mk A290
              clear A290
              have HC30 := Aside0.mk H
              clear H
              have hnb31 := NB322_323.out
              have hnc31 := NB323_322.out
              have hcz32_0 : wc.cell? ⟨gb322, 0, none⟩ = some (.int .u8 a1_0) := (blk_cell BK322.out 0).trans rfl
              have hcz32_1 : wc.cell? ⟨gb322, 1, none⟩ = some (.int .i64 a1_1) := (blk_cell BK322.out 1).trans rfl
              have hcz32_2 : wc.cell? ⟨gb322, 2, none⟩ = some (.string a1_2) := (blk_cell BK322.out 2).trans rfl
              have hfz32_0 := blk_frozen BK322.out 0
              have hfz32_1 := blk_frozen BK322.out 1
              have hfz32_2 := blk_frozen BK322.out 2
              have hcz33_0 : wc.cell? ⟨gb323, 0, none⟩ = some (.int .u8 a2_0) := (blk_cell BK323.out 0).trans rfl
              have hcz33_1 : wc.cell? ⟨gb323, 1, none⟩ = some (.int .i64 a2_1) := (blk_cell BK323.out 1).trans rfl
              have hcz33_2 : wc.cell? ⟨gb323, 2, none⟩ = some (.string a2_2) := (blk_cell BK323.out 2).trans rfl
              have hfz33_0 := blk_frozen BK323.out 0
              have hfz33_1 := blk_frozen BK323.out 1
              have hfz33_2 := blk_frozen BK323.out 2
              go_upto_if 42 with (first | ((with_reducible refine gate_callee (f := 12) rfl ?_); refine goesL_ (some 37) rfl rfl Tryd.func12 (by kernel_rfl) rfl #[.agg #[.int .u8 a1_0, .int .i64 a1_1, .string a1_2], .agg #[.int .u8 a2_0, .int .i64 a2_1, .string a2_2]] rfl (by (try simp only [List.map_toArray, List.map_cons, List.map_nil]); first | done | rfl | (simp only [List.length_drop, List.length_take]; rfl)) ?_; (with_reducible refine (chanceryref17_Order.calls a1_0 a1_1 a1_2 a2_0 a2_1 a2_2 t326 _ A29.out).mono ?_); rintro e w34 ⟨rfl, hb⟩; refine ⟨_, rfl, ?_⟩; have n0_ := Aside0.mk (blk_below (g := gb322) (o := .cells #[.int .u8 a1_0, .int .i64 a1_1, .string a1_2] 25 (0, 0)) (by (with_reducible repeat (first | refine blk_drewN ?_ _ | refine blk_drew ?_ | refine blk_alloc ?_ _)); exact BK322.out) hb); have n1_ := Aside0.mk (blk_below (g := gb323) (o := .cells #[.int .u8 a2_0, .int .i64 a2_1, .string a2_2] 25 (0, 0)) (by (with_reducible repeat (first | refine blk_drewN ?_ _ | refine blk_drew ?_ | refine blk_alloc ?_ _)); exact BK323.out) hb); have n2_ := Aside0.mk (below_step (by repeat (first | (with_reducible first | exact HB.out | apply below_alloc | apply pw_below_drewN | apply below_drew1 | refine below_set ?_ GE322.out | refine below_set ?_ GE323.out) | exact HB.out)) hb); clear BK322; clear BK323; clear HB; have BK322 := n0_; have BK323 := n1_; have HB := n2_; clear n0_ n1_ n2_; (try clear hb); (try clear hb2); (try clear hk); (try clear hi); have hcz35_0 : w34.cell? ⟨gb322, 0, none⟩ = some (.int .u8 a1_0) := (blk_cell BK322.out 0).trans rfl; have hcz35_1 : w34.cell? ⟨gb322, 1, none⟩ = some (.int .i64 a1_1) := (blk_cell BK322.out 1).trans rfl; have hcz35_2 : w34.cell? ⟨gb322, 2, none⟩ = some (.string a1_2) := (blk_cell BK322.out 2).trans rfl; have hfz35_0 := blk_frozen BK322.out 0; have hfz35_1 := blk_frozen BK322.out 1; have hfz35_2 := blk_frozen BK322.out 2; have hcz36_0 : w34.cell? ⟨gb323, 0, none⟩ = some (.int .u8 a2_0) := (blk_cell BK323.out 0).trans rfl; have hcz36_1 : w34.cell? ⟨gb323, 1, none⟩ = some (.int .i64 a2_1) := (blk_cell BK323.out 1).trans rfl; have hcz36_2 : w34.cell? ⟨gb323, 2, none⟩ = some (.string a2_2) := (blk_cell BK323.out 2).trans rfl; have hfz36_0 := blk_frozen BK323.out 0; have hfz36_1 := blk_frozen BK323.out 1; have hfz36_2 := blk_frozen BK323.out 2))
              (try simp only [Act.put, List.setIfInBounds_toArray, List.set_cons_zero, List.set_cons_succ])
              go_cut [8] (fun v8 wc => ∃ (kq : Nat) (x8_29 : Int), v8 = .int .i64 x8_29 ∧ Aside0 (chanceryref17_Compare.j3 kq a0 x8_29 = some (r1, r2)) ∧ Aside0 (kq ≤ kj20) ∧ Aside0 (wc.heap[gb322]? = some (.cells #[.int .u8 a1_0, .int .i64 a1_1, .string a1_2] 25 (0, 0))) ∧ Aside0 (wc.heap[gb323]? = some (.cells #[.int .u8 a2_0, .int .i64 a2_1, .string a2_2] 25 (0, 0))) ∧ Aside0 (Below w.heap.size w wc))
              case first =>
                have H := HC30.out
                clear HC30
                by_cases c37 : a1_0 = a2_0
                · rw [if_pos c37] at H
                  have c37b0 : (a1_0 == a2_0) = true := beq_iff_eq.mpr c37
                  have c37b1 : (a1_0 != a2_0) = false := bne_eq_false_iff_eq.mpr c37
                  clear c37
                  (first | rw [c37b0] | (simp only [i64_w, i32_w]; rw [c37b0]) | skip)
                  have H' := Aside0.mk H
                  clear H
                  go_wp2
                  go_meet
                  case rel => exact ⟨_, (t326), (by first | rfl | (simp; done) | (simp [*]; done)), H', ⟨by have := HJ3.out; have := HJ20.out; first | omega | exact Nat.le_refl _⟩, ⟨by (with_reducible repeat (first | refine blk_drewN ?_ _ | refine blk_drew ?_ | refine blk_alloc ?_ _)); exact BK322.out⟩, ⟨by (with_reducible repeat (first | refine blk_drewN ?_ _ | refine blk_drew ?_ | refine blk_alloc ?_ _)); exact BK323.out⟩, ⟨by repeat (first | (with_reducible first | exact HB.out | apply below_alloc | apply pw_below_drewN | apply below_drew1 | refine below_set ?_ GE322.out | refine below_set ?_ GE323.out) | exact HB.out)⟩⟩
                · rw [if_neg c37] at H
                  have c37b0 : (a1_0 == a2_0) = false := beq_eq_false_iff_ne.mpr c37
                  have c37b1 : (a1_0 != a2_0) = true := bne_iff_ne.mpr c37
                  (first | rw [c37b0] | (simp only [i64_w, i32_w]; rw [c37b0]) | skip)
                  have HC38 := Aside0.mk H
                  clear H
                  go_upto_region 7 with (fail)
                  go_cut [50] (fun v50 wc => ∃ (kq : Nat) (x50_37 : Bool), v50 = .bool x50_37 ∧ Aside0 (chanceryref17_Compare.j2 kq a0 x50_37 a1_0 a1_1 a1_2 a2_0 a2_1 a2_2 = some (r1, r2)) ∧ Aside0 (kq ≤ kj20) ∧ Aside0 (wc.heap[gb322]? = some (.cells #[.int .u8 a1_0, .int .i64 a1_1, .string a1_2] 25 (0, 0))) ∧ Aside0 (wc.heap[gb323]? = some (.cells #[.int .u8 a2_0, .int .i64 a2_1, .string a2_2] 25 (0, 0))) ∧ Aside0 (Below w.heap.size w wc))
                  case first =>
                    have H := HC38.out
                    clear HC38
                    replace H := Option.bind_eq_some_iff.mp H
                    obtain ⟨t327, A390, H⟩ := H
                    replace H : (if t327 = true then ((chanceryref17_number.f a2_0 a2_1 a2_2).bind fun t328 => (chanceryref17_Compare.j2 kj20 a0 (!t328) a1_0 a1_1 a1_2 a2_0 a2_1 a2_2)) else (chanceryref17_Compare.j2 kj20 a0 true a1_0 a1_1 a1_2 a2_0 a2_1 a2_2)) = some (r1, r2) := H
                    have A39 := Aside0.mk A390
                    clear A390
                    by_cases c40 : t327 = true
                    · subst c40
                      have H1 : ((chanceryref17_number.f a2_0 a2_1 a2_2).bind fun t328 => (chanceryref17_Compare.j2 kj20 a0 (!t328) a1_0 a1_1 a1_2 a2_0 a2_1 a2_2)) = some (r1, r2) := by rw [if_pos rfl] at H; exact H
                      clear H
                      have H := H1
                      clear H1
                      replace H := Option.bind_eq_some_iff.mp H
                      obtain ⟨t328, A410, H⟩ := H
                      replace H : (chanceryref17_Compare.j2 kj20 a0 (!t328) a1_0 a1_1 a1_2 a2_0 a2_1 a2_2) = some (r1, r2) := H
                      have A41 := Aside0.mk A410
                      clear A410
                      have H' := Aside0.mk H
                      clear H
                      have hnb42 := NB322_323.out
                      have hnc42 := NB323_322.out
                      have hcz43_0 : w34.cell? ⟨gb322, 0, none⟩ = some (.int .u8 a1_0) := (blk_cell BK322.out 0).trans rfl
                      have hcz43_1 : w34.cell? ⟨gb322, 1, none⟩ = some (.int .i64 a1_1) := (blk_cell BK322.out 1).trans rfl
                      have hcz43_2 : w34.cell? ⟨gb322, 2, none⟩ = some (.string a1_2) := (blk_cell BK322.out 2).trans rfl
                      have hfz43_0 := blk_frozen BK322.out 0
                      have hfz43_1 := blk_frozen BK322.out 1
                      have hfz43_2 := blk_frozen BK322.out 2
                      go_wp2_with (first | ((with_reducible refine gate_callee (f := 43) rfl ?_); refine goesL_ (some 44) rfl rfl Tryd.func43 (by kernel_rfl) rfl #[.agg #[.int .u8 a1_0, .int .i64 a1_1, .string a1_2]] rfl (by (try simp only [List.map_toArray, List.map_cons, List.map_nil]); first | done | rfl | (simp only [List.length_drop, List.length_take]; rfl)) ?_; (with_reducible refine (chanceryref17_number.calls a1_0 a1_1 a1_2 true _ A39.out).mono ?_); rintro e w44 ⟨rfl, hb⟩; refine ⟨_, rfl, ?_⟩; have n0_ := Aside0.mk (blk_below (g := gb322) (o := .cells #[.int .u8 a1_0, .int .i64 a1_1, .string a1_2] 25 (0, 0)) (by (with_reducible repeat (first | refine blk_drewN ?_ _ | refine blk_drew ?_ | refine blk_alloc ?_ _)); exact BK322.out) hb); have n1_ := Aside0.mk (blk_below (g := gb323) (o := .cells #[.int .u8 a2_0, .int .i64 a2_1, .string a2_2] 25 (0, 0)) (by (with_reducible repeat (first | refine blk_drewN ?_ _ | refine blk_drew ?_ | refine blk_alloc ?_ _)); exact BK323.out) hb); have n2_ := Aside0.mk (below_step (by repeat (first | (with_reducible first | exact HB.out | apply below_alloc | apply pw_below_drewN | apply below_drew1 | refine below_set ?_ GE322.out | refine below_set ?_ GE323.out) | exact HB.out)) hb); clear BK322; clear BK323; clear HB; have BK322 := n0_; have BK323 := n1_; have HB := n2_; clear n0_ n1_ n2_; (try clear hb); (try clear hb2); (try clear hk); (try clear hi); have hcz45_0 : w44.cell? ⟨gb323, 0, none⟩ = some (.int .u8 a2_0) := (blk_cell BK323.out 0).trans rfl; have hcz45_1 : w44.cell? ⟨gb323, 1, none⟩ = some (.int .i64 a2_1) := (blk_cell BK323.out 1).trans rfl; have hcz45_2 : w44.cell? ⟨gb323, 2, none⟩ = some (.string a2_2) := (blk_cell BK323.out 2).trans rfl; have hfz45_0 := blk_frozen BK323.out 0; have hfz45_1 := blk_frozen BK323.out 1; have hfz45_2 := blk_frozen BK323.out 2) | (go_at_call 43; (with_reducible refine (chanceryref17_number.calls a2_0 a2_1 a2_2 t328 _ A41.out).mono ?_); rintro e w46 ⟨rfl, hb⟩; have n0_ := Aside0.mk (blk_below (g := gb322) (o := .cells #[.int .u8 a1_0, .int .i64 a1_1, .string a1_2] 25 (0, 0)) (by (with_reducible repeat (first | refine blk_drewN ?_ _ | refine blk_drew ?_ | refine blk_alloc ?_ _)); exact BK322.out) hb); have n1_ := Aside0.mk (blk_below (g := gb323) (o := .cells #[.int .u8 a2_0, .int .i64 a2_1, .string a2_2] 25 (0, 0)) (by (with_reducible repeat (first | refine blk_drewN ?_ _ | refine blk_drew ?_ | refine blk_alloc ?_ _)); exact BK323.out) hb); have n2_ := Aside0.mk (below_step (by repeat (first | (with_reducible first | exact HB.out | apply below_alloc | apply pw_below_drewN | apply below_drew1 | refine below_set ?_ GE322.out | refine below_set ?_ GE323.out) | exact HB.out)) hb); clear BK322; clear BK323; clear HB; have BK322 := n0_; have BK323 := n1_; have HB := n2_; clear n0_ n1_ n2_; (try clear hb); (try clear hb2); (try clear hk); (try clear hi)))
                      go_meet
                      case rel => exact ⟨_, (!t328), (by first | rfl | (simp; done) | (simp [*]; done)), H', ⟨by have := HJ3.out; have := HJ20.out; first | omega | exact Nat.le_refl _⟩, ⟨by (with_reducible repeat (first | refine blk_drewN ?_ _ | refine blk_drew ?_ | refine blk_alloc ?_ _)); exact BK322.out⟩, ⟨by (with_reducible repeat (first | refine blk_drewN ?_ _ | refine blk_drew ?_ | refine blk_alloc ?_ _)); exact BK323.out⟩, ⟨by repeat (first | (with_reducible first | exact HB.out | apply below_alloc | apply pw_below_drewN | apply below_drew1 | refine below_set ?_ GE322.out | refine below_set ?_ GE323.out) | exact HB.out)⟩⟩
                    · replace c40 := Bool.eq_false_iff.mpr c40
                      subst c40
                      have H1 : (chanceryref17_Compare.j2 kj20 a0 true a1_0 a1_1 a1_2 a2_0 a2_1 a2_2) = some (r1, r2) := by rw [if_neg (show ¬ (false = true) by decide)] at H; exact H
                      clear H
                      have H := H1
                      clear H1
                      have H' := Aside0.mk H
                      clear H
                      have hnb47 := NB322_323.out
                      have hnc47 := NB323_322.out
                      have hcz48_0 : w34.cell? ⟨gb322, 0, none⟩ = some (.int .u8 a1_0) := (blk_cell BK322.out 0).trans rfl
                      have hcz48_1 : w34.cell? ⟨gb322, 1, none⟩ = some (.int .i64 a1_1) := (blk_cell BK322.out 1).trans rfl
                      have hcz48_2 : w34.cell? ⟨gb322, 2, none⟩ = some (.string a1_2) := (blk_cell BK322.out 2).trans rfl
                      have hfz48_0 := blk_frozen BK322.out 0
                      have hfz48_1 := blk_frozen BK322.out 1
                      have hfz48_2 := blk_frozen BK322.out 2
                      go_wp2_with (first | ((with_reducible refine gate_callee (f := 43) rfl ?_); refine goesL_ (some 44) rfl rfl Tryd.func43 (by kernel_rfl) rfl #[.agg #[.int .u8 a1_0, .int .i64 a1_1, .string a1_2]] rfl (by (try simp only [List.map_toArray, List.map_cons, List.map_nil]); first | done | rfl | (simp only [List.length_drop, List.length_take]; rfl)) ?_; (with_reducible refine (chanceryref17_number.calls a1_0 a1_1 a1_2 false _ A39.out).mono ?_); rintro e w49 ⟨rfl, hb⟩; refine ⟨_, rfl, ?_⟩; have n0_ := Aside0.mk (blk_below (g := gb322) (o := .cells #[.int .u8 a1_0, .int .i64 a1_1, .string a1_2] 25 (0, 0)) (by (with_reducible repeat (first | refine blk_drewN ?_ _ | refine blk_drew ?_ | refine blk_alloc ?_ _)); exact BK322.out) hb); have n1_ := Aside0.mk (blk_below (g := gb323) (o := .cells #[.int .u8 a2_0, .int .i64 a2_1, .string a2_2] 25 (0, 0)) (by (with_reducible repeat (first | refine blk_drewN ?_ _ | refine blk_drew ?_ | refine blk_alloc ?_ _)); exact BK323.out) hb); have n2_ := Aside0.mk (below_step (by repeat (first | (with_reducible first | exact HB.out | apply below_alloc | apply pw_below_drewN | apply below_drew1 | refine below_set ?_ GE322.out | refine below_set ?_ GE323.out) | exact HB.out)) hb); clear BK322; clear BK323; clear HB; have BK322 := n0_; have BK323 := n1_; have HB := n2_; clear n0_ n1_ n2_; (try clear hb); (try clear hb2); (try clear hk); (try clear hi)))
                      go_meet
                      case rel => exact ⟨_, (true), (by first | rfl | (simp; done) | (simp [*]; done)), H', ⟨by have := HJ3.out; have := HJ20.out; first | omega | exact Nat.le_refl _⟩, ⟨by (with_reducible repeat (first | refine blk_drewN ?_ _ | refine blk_drew ?_ | refine blk_alloc ?_ _)); exact BK322.out⟩, ⟨by (with_reducible repeat (first | refine blk_drewN ?_ _ | refine blk_drew ?_ | refine blk_alloc ?_ _)); exact BK323.out⟩, ⟨by repeat (first | (with_reducible first | exact HB.out | apply below_alloc | apply pw_below_drewN | apply below_drew1 | refine below_set ?_ GE322.out | refine below_set ?_ GE323.out) | exact HB.out)⟩⟩
                  case rest =>
                    clear HC38
                    try clear c1
                    try clear c2
                    try clear p2
                    try clear c3
                    try clear c4
                    try clear c7
                    try clear c7b0
                    try clear c8
                    try clear c8b0
                    try clear c10
                    try clear c12
                    try clear c17
                    try clear c20
                    try clear c22
                    try clear c22b0
                    try clear c22b1
                    try clear c23
                    try clear c25
                    try clear c28
                    try clear c31
                    try clear c37
                    try clear c37b0
                    try clear c37b1
                    try clear c40
                    try clear c42
                    try clear c43
                    try clear c47
                    try clear hcz13_0
                    try clear hcz13_1
                    try clear hcz13_2
                    try clear hcz15_0
                    try clear hcz15_1
                    try clear hcz15_2
                    try clear hcz18_0
                    try clear hcz18_1
                    try clear hcz18_2
                    try clear hcz24_0
                    try clear hcz24_1
                    try clear hcz24_2
                    try clear hcz26_0
                    try clear hcz26_1
                    try clear hcz26_2
                    try clear hcz27_0
                    try clear hcz27_1
                    try clear hcz27_2
                    try clear hcz32_0
                    try clear hcz32_1
                    try clear hcz32_2
                    try clear hcz33_0
                    try clear hcz33_1
                    try clear hcz33_2
                    try clear hcz35_0
                    try clear hcz35_1
                    try clear hcz35_2
                    try clear hcz36_0
                    try clear hcz36_1
                    try clear hcz36_2
                    try clear hcz43_0
                    try clear hcz43_1
                    try clear hcz43_2
                    try clear hcz45_0
                    try clear hcz45_1
                    try clear hcz45_2
                    try clear hcz48_0
                    try clear hcz48_1
                    try clear hcz48_2
                    try clear hfz13_0
                    try clear hfz13_1
                    try clear hfz13_2
                    try clear hfz15_0
                    try clear hfz15_1
                    try clear hfz15_2
                    try clear hfz18_0
                    try clear hfz18_1
                    try clear hfz18_2
                    try clear hfz24_0
                    try clear hfz24_1
                    try clear hfz24_2
                    try clear hfz26_0
                    try clear hfz26_1
                    try clear hfz26_2
                    try clear hfz27_0
                    try clear hfz27_1
                    try clear hfz27_2
                    try clear hfz32_0
                    try clear hfz32_1
                    try clear hfz32_2
                    try clear hfz33_0
                    try clear hfz33_1
                    try clear hfz33_2
                    try clear hfz35_0
                    try clear hfz35_1
                    try clear hfz35_2
                    try clear hfz36_0
                    try clear hfz36_1
                    try clear hfz36_2
                    try clear hfz43_0
                    try clear hfz43_1
                    try clear hfz43_2
                    try clear hfz45_0
                    try clear hfz45_1
                    try clear hfz45_2
                    try clear hfz48_0
                    try clear hfz48_1
                    try clear hfz48_2
                    try clear p2
                    obtain ⟨kq, x50_37, rfl, HA, HJ37, BK322, BK323, HB⟩ := hcut
                    cases kq with
                    | zero => exact absurd HA.out (by simp [chanceryref17_Compare.j2])
                    | succ kj37 =>
                      have H := HA.out
                      clear HA
                      simp only [chanceryref17_Compare.j2] at H
                      by_cases c50 : x50_37 = true
                      · subst c50
                        have H1 : (some (0, 270)) = some (r1, r2) := by rw [if_pos rfl] at H; exact H
                        clear H
                        have H := H1
                        clear H1
                        simp only [Option.some.injEq, Prod.mk.injEq] at H
                        obtain ⟨rfl, rfl⟩ := H
                        go_wp2
                        go_ret2
                        exact ⟨by first | rfl | (simp [errW_none, errW_some] <;> rfl) | (simp [*, errW_none, errW_some] <;> rfl), by repeat (first | (with_reducible first | exact HB.out | apply below_alloc | apply pw_below_drewN | apply below_drew1 | refine below_set ?_ GE322.out | refine below_set ?_ GE323.out) | exact HB.out)⟩
                      · replace c50 := Bool.eq_false_iff.mpr c50
                        subst c50
                        have H1 : ((chanceryref17_fixed.f a2_0 a2_1 a2_2).bind fun bt329 => ((chanceryref17_fixed.f a1_0 a1_1 a1_2).bind fun bt336 => ((chanceryref17_add.f bt336.1 bt336.2.1 bt336.2.2.1 bt336.2.2.2.1 bt336.2.2.2.2.1 bt336.2.2.2.2.2 (!bt329.1) bt329.2.1 bt329.2.2.1 bt329.2.2.2.1 bt329.2.2.2.2.1 bt329.2.2.2.2.2).bind fun bt342 => ((chanceryref17_sign.f bt342.1 bt342.2.1 bt342.2.2.1 bt342.2.2.2.1 bt342.2.2.2.2.1 bt342.2.2.2.2.2).bind fun t348 => (chanceryref17_Compare.j3 kj37 a0 t348))))) = some (r1, r2) := by rw [if_neg (show ¬ (false = true) by decide)] at H; exact H
                        clear H
                        have H := H1
                        clear H1
                        replace H := Option.bind_eq_some_iff.mp H
                        obtain ⟨⟨t329, t330, t331, t332, t333, t334⟩, A510, H⟩ := H
                        replace H : ((chanceryref17_fixed.f a1_0 a1_1 a1_2).bind fun bt336 => ((chanceryref17_add.f bt336.1 bt336.2.1 bt336.2.2.1 bt336.2.2.2.1 bt336.2.2.2.2.1 bt336.2.2.2.2.2 (!t329) t330 t331 t332 t333 t334).bind fun bt342 => ((chanceryref17_sign.f bt342.1 bt342.2.1 bt342.2.2.1 bt342.2.2.2.1 bt342.2.2.2.2.1 bt342.2.2.2.2.2).bind fun t348 => (chanceryref17_Compare.j3 kj37 a0 t348)))) = some (r1, r2) := H
                        have A51 := Aside0.mk A510
                        clear A510
                        replace H := Option.bind_eq_some_iff.mp H
                        obtain ⟨⟨t336, t337, t338, t339, t340, t341⟩, A520, H⟩ := H
                        replace H : ((chanceryref17_add.f t336 t337 t338 t339 t340 t341 (!t329) t330 t331 t332 t333 t334).bind fun bt342 => ((chanceryref17_sign.f bt342.1 bt342.2.1 bt342.2.2.1 bt342.2.2.2.1 bt342.2.2.2.2.1 bt342.2.2.2.2.2).bind fun t348 => (chanceryref17_Compare.j3 kj37 a0 t348))) = some (r1, r2) := H
                        have A52 := Aside0.mk A520
                        clear A520
                        replace H := Option.bind_eq_some_iff.mp H
                        obtain ⟨⟨t342, t343, t344, t345, t346, t347⟩, A530, H⟩ := H
                        replace H : ((chanceryref17_sign.f t342 t343 t344 t345 t346 t347).bind fun t348 => (chanceryref17_Compare.j3 kj37 a0 t348)) = some (r1, r2) := H
                        have A53 := Aside0.mk A530
                        clear A530
                        replace H := Option.bind_eq_some_iff.mp H
                        obtain ⟨t348, A540, H⟩ := H
                        replace H : (chanceryref17_Compare.j3 kj37 a0 t348) = some (r1, r2) := H
                        have A54 := Aside0.mk A540
                        clear A540
                        have H' := Aside0.mk H
                        clear H
                        have hnb55 := NB323_322.out
                        have hnc55 := NB322_323.out
                        have hcz56_0 : wc.cell? ⟨gb323, 0, none⟩ = some (.int .u8 a2_0) := (blk_cell BK323.out 0).trans rfl
                        have hcz56_1 : wc.cell? ⟨gb323, 1, none⟩ = some (.int .i64 a2_1) := (blk_cell BK323.out 1).trans rfl
                        have hcz56_2 : wc.cell? ⟨gb323, 2, none⟩ = some (.string a2_2) := (blk_cell BK323.out 2).trans rfl
                        have hfz56_0 := blk_frozen BK323.out 0
                        have hfz56_1 := blk_frozen BK323.out 1
                        have hfz56_2 := blk_frozen BK323.out 2
                        try go_wp2_with (first | ((with_reducible refine gate_callee (f := 44) rfl ?_); refine goesL_ (some 52) rfl rfl Tryd.func44 (by kernel_rfl) rfl #[.agg #[.int .u8 a2_0, .int .i64 a2_1, .string a2_2]] rfl (by (try simp only [List.map_toArray, List.map_cons, List.map_nil]); first | done | rfl | (simp only [List.length_drop, List.length_take]; rfl)) ?_; (with_reducible refine (chanceryref17_fixed.calls a2_0 a2_1 a2_2 t329 t330 t331 t332 t333 t334 _ A51.out).mono ?_); rintro e w57 ⟨rfl, hb⟩; refine ⟨_, rfl, ?_⟩; have n0_ := Aside0.mk (blk_below (g := gb322) (o := .cells #[.int .u8 a1_0, .int .i64 a1_1, .string a1_2] 25 (0, 0)) (by (with_reducible repeat (first | refine blk_drewN ?_ _ | refine blk_drew ?_ | refine blk_alloc ?_ _)); exact BK322.out) hb); have n1_ := Aside0.mk (blk_below (g := gb323) (o := .cells #[.int .u8 a2_0, .int .i64 a2_1, .string a2_2] 25 (0, 0)) (by (with_reducible repeat (first | refine blk_drewN ?_ _ | refine blk_drew ?_ | refine blk_alloc ?_ _)); exact BK323.out) hb); have n2_ := Aside0.mk (below_step (by repeat (first | (with_reducible first | exact HB.out | apply below_alloc | apply pw_below_drewN | apply below_drew1 | refine below_set ?_ GE322.out | refine below_set ?_ GE323.out) | exact HB.out)) hb); clear BK322; clear BK323; clear HB; have BK322 := n0_; have BK323 := n1_; have HB := n2_; clear n0_ n1_ n2_; (try clear hb); (try clear hb2); (try clear hk); (try clear hi)) | ((with_reducible refine gate_dst (N := 9) rfl ?_); refine box_event ?hg (N := 9) ?hd (cs := #[.bool false, .int .u64 0, .int .u64 0, .int .u64 0, .int .u64 0, .int .u64 0]) (t := 56) ?hr ?_; (case hd => rfl); (case hg => rfl); (case hr => first | (go_simp; done) | (go_simp; rfl)); intro gb335 hg w58 hbox hb; have n0_ := Aside0.mk (blk_below (g := gb322) (o := .cells #[.int .u8 a1_0, .int .i64 a1_1, .string a1_2] 25 (0, 0)) (by (with_reducible repeat (first | refine blk_drewN ?_ _ | refine blk_drew ?_ | refine blk_alloc ?_ _)); exact BK322.out) hb); have n1_ := Aside0.mk (blk_below (g := gb323) (o := .cells #[.int .u8 a2_0, .int .i64 a2_1, .string a2_2] 25 (0, 0)) (by (with_reducible repeat (first | refine blk_drewN ?_ _ | refine blk_drew ?_ | refine blk_alloc ?_ _)); exact BK323.out) hb); have n2_ := Aside0.mk (below_step (by repeat (first | (with_reducible first | exact HB.out | apply below_alloc | apply pw_below_drewN | apply below_drew1 | refine below_set ?_ GE322.out | refine below_set ?_ GE323.out) | exact HB.out)) hb); have n3_ := Aside0.mk (hbox); have n4_ := Aside0.mk ((by rw [hg]; exact (below_size (by repeat (first | (with_reducible first | exact HB.out | apply below_alloc | apply pw_below_drewN | apply below_drew1 | refine below_set ?_ GE322.out | refine below_set ?_ GE323.out) | exact HB.out))) : w.heap.size ≤ gb335)); have n5_ := Aside0.mk ((by rw [hg]; exact (below_size (by repeat (first | (with_reducible first | exact HB.out | apply below_alloc | apply pw_below_drewN | apply below_drew1 | refine below_set ?_ GE322.out | refine below_set ?_ GE323.out) | exact HB.out))) : w.heap.size ≤ gb335)); have n6_ := Aside0.mk ((by rw [hg]; exact Nat.ne_of_lt (blk_lt (g := gb322) (o := .cells #[.int .u8 a1_0, .int .i64 a1_1, .string a1_2] 25 (0, 0)) (by (with_reducible repeat (first | refine blk_drewN ?_ _ | refine blk_drew ?_ | refine blk_alloc ?_ _)); exact BK322.out)) : gb322 ≠ gb335)); have n7_ := Aside0.mk ((by rw [hg]; exact Nat.ne_of_gt (blk_lt (g := gb322) (o := .cells #[.int .u8 a1_0, .int .i64 a1_1, .string a1_2] 25 (0, 0)) (by (with_reducible repeat (first | refine blk_drewN ?_ _ | refine blk_drew ?_ | refine blk_alloc ?_ _)); exact BK322.out)) : gb335 ≠ gb322)); have n8_ := Aside0.mk ((by rw [hg]; exact Nat.ne_of_lt (blk_lt (g := gb323) (o := .cells #[.int .u8 a2_0, .int .i64 a2_1, .string a2_2] 25 (0, 0)) (by (with_reducible repeat (first | refine blk_drewN ?_ _ | refine blk_drew ?_ | refine blk_alloc ?_ _)); exact BK323.out)) : gb323 ≠ gb335)); have n9_ := Aside0.mk ((by rw [hg]; exact Nat.ne_of_gt (blk_lt (g := gb323) (o := .cells #[.int .u8 a2_0, .int .i64 a2_1, .string a2_2] 25 (0, 0)) (by (with_reducible repeat (first | refine blk_drewN ?_ _ | refine blk_drew ?_ | refine blk_alloc ?_ _)); exact BK323.out)) : gb335 ≠ gb323)); clear BK322; clear BK323; clear HB; have BK322 := n0_; have BK323 := n1_; have HB := n2_; have BK335 := n3_; have GW335 := n4_; have GE335 := n5_; have NB322_335 := n6_; have NB335_322 := n7_; have NB323_335 := n8_; have NB335_323 := n9_; clear n0_ n1_ n2_ n3_ n4_ n5_ n6_ n7_ n8_ n9_; clear hb hbox hg; have hnb59 := NB335_322.out; have hnc59 := NB322_335.out; have hnb60 := NB335_323.out; have hnc60 := NB323_335.out; have hcz61_0 : w58.cell? ⟨gb335, 0, none⟩ = some (.bool false) := (blk_cell BK335.out 0).trans rfl; have hcz61_1 : w58.cell? ⟨gb335, 1, none⟩ = some (.int .u64 0) := (blk_cell BK335.out 1).trans rfl; have hcz61_2 : w58.cell? ⟨gb335, 2, none⟩ = some (.int .u64 0) := (blk_cell BK335.out 2).trans rfl; have hcz61_3 : w58.cell? ⟨gb335, 3, none⟩ = some (.int .u64 0) := (blk_cell BK335.out 3).trans rfl; have hcz61_4 : w58.cell? ⟨gb335, 4, none⟩ = some (.int .u64 0) := (blk_cell BK335.out 4).trans rfl; have hcz61_5 : w58.cell? ⟨gb335, 5, none⟩ = some (.int .u64 0) := (blk_cell BK335.out 5).trans rfl; have hfz61_0 := blk_frozen BK335.out 0; have hfz61_1 := blk_frozen BK335.out 1; have hfz61_2 := blk_frozen BK335.out 2; have hfz61_3 := blk_frozen BK335.out 3; have hfz61_4 := blk_frozen BK335.out 4; have hfz61_5 := blk_frozen BK335.out 5))
                        have n0_ : Aside0 ((((((((w58.setCell ⟨gb335, 0, none⟩ (.bool t329)).setCell ⟨gb335, 1, none⟩ (.int .u64 t330)).setCell ⟨gb335, 2, none⟩ (.int .u64 t331)).setCell ⟨gb335, 3, none⟩ (.int .u64 t332)).setCell ⟨gb335, 4, none⟩ (.int .u64 t333)).setCell ⟨gb335, 5, none⟩ (.int .u64 t334)).setCell ⟨gb335, 0, none⟩ (.bool (!t329))).heap[gb322]? = some (.cells #[.int .u8 a1_0, .int .i64 a1_1, .string a1_2] 25 (0, 0))) := ⟨by (with_reducible repeat (first | refine blk_drewN ?_ _ | refine blk_drew ?_ | refine blk_alloc ?_ _)); refine blk_far ?_ NB322_335.out _; (with_reducible repeat (first | refine blk_drewN ?_ _ | refine blk_drew ?_ | refine blk_alloc ?_ _)); refine blk_far ?_ NB322_335.out _; (with_reducible repeat (first | refine blk_drewN ?_ _ | refine blk_drew ?_ | refine blk_alloc ?_ _)); refine blk_far ?_ NB322_335.out _; (with_reducible repeat (first | refine blk_drewN ?_ _ | refine blk_drew ?_ | refine blk_alloc ?_ _)); refine blk_far ?_ NB322_335.out _; (with_reducible repeat (first | refine blk_drewN ?_ _ | refine blk_drew ?_ | refine blk_alloc ?_ _)); refine blk_far ?_ NB322_335.out _; (with_reducible repeat (first | refine blk_drewN ?_ _ | refine blk_drew ?_ | refine blk_alloc ?_ _)); refine blk_far ?_ NB322_335.out _; (with_reducible repeat (first | refine blk_drewN ?_ _ | refine blk_drew ?_ | refine blk_alloc ?_ _)); refine blk_far ?_ NB322_335.out _; (with_reducible repeat (first | refine blk_drewN ?_ _ | refine blk_drew ?_ | refine blk_alloc ?_ _)); exact BK322.out⟩
                        have n1_ : Aside0 ((((((((w58.setCell ⟨gb335, 0, none⟩ (.bool t329)).setCell ⟨gb335, 1, none⟩ (.int .u64 t330)).setCell ⟨gb335, 2, none⟩ (.int .u64 t331)).setCell ⟨gb335, 3, none⟩ (.int .u64 t332)).setCell ⟨gb335, 4, none⟩ (.int .u64 t333)).setCell ⟨gb335, 5, none⟩ (.int .u64 t334)).setCell ⟨gb335, 0, none⟩ (.bool (!t329))).heap[gb323]? = some (.cells #[.int .u8 a2_0, .int .i64 a2_1, .string a2_2] 25 (0, 0))) := ⟨by (with_reducible repeat (first | refine blk_drewN ?_ _ | refine blk_drew ?_ | refine blk_alloc ?_ _)); refine blk_far ?_ NB323_335.out _; (with_reducible repeat (first | refine blk_drewN ?_ _ | refine blk_drew ?_ | refine blk_alloc ?_ _)); refine blk_far ?_ NB323_335.out _; (with_reducible repeat (first | refine blk_drewN ?_ _ | refine blk_drew ?_ | refine blk_alloc ?_ _)); refine blk_far ?_ NB323_335.out _; (with_reducible repeat (first | refine blk_drewN ?_ _ | refine blk_drew ?_ | refine blk_alloc ?_ _)); refine blk_far ?_ NB323_335.out _; (with_reducible repeat (first | refine blk_drewN ?_ _ | refine blk_drew ?_ | refine blk_alloc ?_ _)); refine blk_far ?_ NB323_335.out _; (with_reducible repeat (first | refine blk_drewN ?_ _ | refine blk_drew ?_ | refine blk_alloc ?_ _)); refine blk_far ?_ NB323_335.out _; (with_reducible repeat (first | refine blk_drewN ?_ _ | refine blk_drew ?_ | refine blk_alloc ?_ _)); refine blk_far ?_ NB323_335.out _; (with_reducible repeat (first | refine blk_drewN ?_ _ | refine blk_drew ?_ | refine blk_alloc ?_ _)); exact BK323.out⟩
                        have n2_ : Aside0 ((((((((w58.setCell ⟨gb335, 0, none⟩ (.bool t329)).setCell ⟨gb335, 1, none⟩ (.int .u64 t330)).setCell ⟨gb335, 2, none⟩ (.int .u64 t331)).setCell ⟨gb335, 3, none⟩ (.int .u64 t332)).setCell ⟨gb335, 4, none⟩ (.int .u64 t333)).setCell ⟨gb335, 5, none⟩ (.int .u64 t334)).setCell ⟨gb335, 0, none⟩ (.bool (!t329))).heap[gb335]? = some (.cells #[.bool (!t329), .int .u64 t330, .int .u64 t331, .int .u64 t332, .int .u64 t333, .int .u64 t334] 56 (0, 0))) := ⟨by (with_reducible repeat (first | refine blk_drewN ?_ _ | refine blk_drew ?_ | refine blk_alloc ?_ _)); refine blk_put (cs := #[.bool t329, .int .u64 t330, .int .u64 t331, .int .u64 t332, .int .u64 t333, .int .u64 t334]) ?_ 0 _ rfl; (with_reducible repeat (first | refine blk_drewN ?_ _ | refine blk_drew ?_ | refine blk_alloc ?_ _)); refine blk_put (cs := #[.bool t329, .int .u64 t330, .int .u64 t331, .int .u64 t332, .int .u64 t333, .int .u64 0]) ?_ 5 _ rfl; (with_reducible repeat (first | refine blk_drewN ?_ _ | refine blk_drew ?_ | refine blk_alloc ?_ _)); refine blk_put (cs := #[.bool t329, .int .u64 t330, .int .u64 t331, .int .u64 t332, .int .u64 0, .int .u64 0]) ?_ 4 _ rfl; (with_reducible repeat (first | refine blk_drewN ?_ _ | refine blk_drew ?_ | refine blk_alloc ?_ _)); refine blk_put (cs := #[.bool t329, .int .u64 t330, .int .u64 t331, .int .u64 0, .int .u64 0, .int .u64 0]) ?_ 3 _ rfl; (with_reducible repeat (first | refine blk_drewN ?_ _ | refine blk_drew ?_ | refine blk_alloc ?_ _)); refine blk_put (cs := #[.bool t329, .int .u64 t330, .int .u64 0, .int .u64 0, .int .u64 0, .int .u64 0]) ?_ 2 _ rfl; (with_reducible repeat (first | refine blk_drewN ?_ _ | refine blk_drew ?_ | refine blk_alloc ?_ _)); refine blk_put (cs := #[.bool t329, .int .u64 0, .int .u64 0, .int .u64 0, .int .u64 0, .int .u64 0]) ?_ 1 _ rfl; (with_reducible repeat (first | refine blk_drewN ?_ _ | refine blk_drew ?_ | refine blk_alloc ?_ _)); refine blk_put (cs := #[.bool false, .int .u64 0, .int .u64 0, .int .u64 0, .int .u64 0, .int .u64 0]) ?_ 0 _ rfl; (with_reducible repeat (first | refine blk_drewN ?_ _ | refine blk_drew ?_ | refine blk_alloc ?_ _)); exact BK335.out⟩
                        have n3_ : Aside0 (Below w.heap.size w (((((((w58.setCell ⟨gb335, 0, none⟩ (.bool t329)).setCell ⟨gb335, 1, none⟩ (.int .u64 t330)).setCell ⟨gb335, 2, none⟩ (.int .u64 t331)).setCell ⟨gb335, 3, none⟩ (.int .u64 t332)).setCell ⟨gb335, 4, none⟩ (.int .u64 t333)).setCell ⟨gb335, 5, none⟩ (.int .u64 t334)).setCell ⟨gb335, 0, none⟩ (.bool (!t329)))) := ⟨by repeat (first | (with_reducible first | exact HB.out | apply below_alloc | apply pw_below_drewN | apply below_drew1 | refine below_set ?_ GE322.out | refine below_set ?_ GE323.out | refine below_set ?_ GE335.out) | exact HB.out)⟩
                        (try clear BK322)
                        (try clear BK323)
                        (try clear BK335)
                        (try clear HB)
                        generalize (((((((w58.setCell ⟨gb335, 0, none⟩ (.bool t329)).setCell ⟨gb335, 1, none⟩ (.int .u64 t330)).setCell ⟨gb335, 2, none⟩ (.int .u64 t331)).setCell ⟨gb335, 3, none⟩ (.int .u64 t332)).setCell ⟨gb335, 4, none⟩ (.int .u64 t333)).setCell ⟨gb335, 5, none⟩ (.int .u64 t334)).setCell ⟨gb335, 0, none⟩ (.bool (!t329))) = w62 at n0_ n1_ n2_ n3_ ⊢
                        have BK322 := n0_
                        have BK323 := n1_
                        have BK335 := n2_
                        have HB := n3_
                        clear n0_ n1_ n2_ n3_
                        have n0_ := Aside0.mk (blk_drew BK322.out)
                        have n1_ := Aside0.mk (blk_drew BK323.out)
                        have n2_ := Aside0.mk (blk_drew BK335.out)
                        have n3_ := Aside0.mk (below_drew1 HB.out)
                        clear BK322
                        clear BK323
                        clear BK335
                        clear HB
                        have BK322 := n0_
                        have BK323 := n1_
                        have BK335 := n2_
                        have HB := n3_
                        clear n0_ n1_ n2_ n3_
                        refine start_ (n := 6) (S := fun w' => w'.cell? ⟨gb322, 0, none⟩ = some (.int .u8 a1_0) ∧ w'.cell? ⟨gb322, 1, none⟩ = some (.int .i64 a1_1) ∧ w'.cell? ⟨gb322, 2, none⟩ = some (.string a1_2) ∧ w'.cell? ⟨gb335, 0, none⟩ = some (.bool (!t329)) ∧ w'.cell? ⟨gb335, 1, none⟩ = some (.int .u64 t330) ∧ w'.cell? ⟨gb335, 2, none⟩ = some (.int .u64 t331) ∧ w'.cell? ⟨gb335, 3, none⟩ = some (.int .u64 t332) ∧ w'.cell? ⟨gb335, 4, none⟩ = some (.int .u64 t333) ∧ w'.cell? ⟨gb335, 5, none⟩ = some (.int .u64 t334)) (ds := []) #[false, false, false, false, false, false] (by kernel_rfl) rfl rfl ⟨(blk_cell BK322.out 0).trans rfl, (blk_cell BK322.out 1).trans rfl, (blk_cell BK322.out 2).trans rfl, (blk_cell BK335.out 0).trans rfl, (blk_cell BK335.out 1).trans rfl, (blk_cell BK335.out 2).trans rfl, (blk_cell BK335.out 3).trans rfl, (blk_cell BK335.out 4).trans rfl, (blk_cell BK335.out 5).trans rfl⟩ (fun hHeld => ?_)
                        generalize w62.drew = w63 at BK322 BK323 BK335 HB hHeld ⊢
                        refine take_ (i := 0) (N := some 57) (v := ?_) (a' := ?_) #[true, false, false, false, false, false] rfl rfl (by kernel_rfl) (fun _ _ _ h => h) (Or.inl ⟨by rfl, ?_⟩) hHeld ?_ ?_
                        rotate_left
                        · rintro w' ⟨s0, s1, s2, s3, s4, s5, s6, s7, s8⟩
                          go_simp
                          with_reducible rfl
                        rotate_left
                        · simp only [Act.put, List.setIfInBounds_toArray, List.set_cons_zero, List.set_cons_succ, i64_w, i32_w]
                          rfl
                        refine take_ (i := 2) (N := some 59) (v := ?_) (a' := ?_) #[true, false, true, false, false, false] rfl rfl (by kernel_rfl) (fun _ _ _ h => h) (Or.inl ⟨by rfl, ?_⟩) hHeld ?_ ?_
                        rotate_left
                        · rintro w' ⟨s0, s1, s2, s3, s4, s5, s6, s7, s8⟩
                          go_simp
                          with_reducible rfl
                        rotate_left
                        · simp only [Act.put, List.setIfInBounds_toArray, List.set_cons_zero, List.set_cons_succ, i64_w, i32_w]
                          rfl
                        refine one_ (i := 1) (N := some 58) #[true, true, true, false, false, false] rfl rfl (by kernel_rfl) (by decide) (fun K hK => ?_)
                        refine goes_ Tryd.func44 (by kernel_rfl) rfl #[.agg #[.int .u8 a1_0, .int .i64 a1_1, .string a1_2]] (by rfl) rfl rfl (by (try simp only [List.map_toArray, List.map_cons, List.map_nil]); first | done | rfl | (simp only [List.length_drop, List.length_take]; rfl)) ?_
                        with_reducible refine (chanceryref17_fixed.calls a1_0 a1_1 a1_2 t336 t337 t338 t339 t340 t341 _ A52.out).mono ?_
                        rintro e w64 ⟨rfl, hb⟩
                        refine ⟨_, rfl, ?_⟩
                        have n0_ := Aside0.mk (blk_below (g := gb322) (o := .cells #[.int .u8 a1_0, .int .i64 a1_1, .string a1_2] 25 (0, 0)) (by (with_reducible repeat (first | refine blk_drewN ?_ _ | refine blk_drew ?_ | refine blk_alloc ?_ _)); exact BK322.out) hb)
                        have n1_ := Aside0.mk (blk_below (g := gb323) (o := .cells #[.int .u8 a2_0, .int .i64 a2_1, .string a2_2] 25 (0, 0)) (by (with_reducible repeat (first | refine blk_drewN ?_ _ | refine blk_drew ?_ | refine blk_alloc ?_ _)); exact BK323.out) hb)
                        have n2_ := Aside0.mk (blk_below (g := gb335) (o := .cells #[.bool (!t329), .int .u64 t330, .int .u64 t331, .int .u64 t332, .int .u64 t333, .int .u64 t334] 56 (0, 0)) (by (with_reducible repeat (first | refine blk_drewN ?_ _ | refine blk_drew ?_ | refine blk_alloc ?_ _)); exact BK335.out) hb)
                        have n3_ := Aside0.mk (below_step (by repeat (first | (with_reducible first | exact HB.out | apply below_alloc | apply pw_below_drewN | apply below_drew1 | refine below_set ?_ GE322.out | refine below_set ?_ GE323.out | refine below_set ?_ GE335.out) | exact HB.out)) hb)
                        clear BK322
                        clear BK323
                        clear BK335
                        clear HB
                        have BK322 := n0_
                        have BK323 := n1_
                        have BK335 := n2_
                        have HB := n3_
                        clear n0_ n1_ n2_ n3_
                        (try clear hb)
                        (try clear hb2)
                        (try clear hk)
                        (try clear hi)
                        refine hK.out _ _ ⟨(blk_cell BK322.out 0).trans rfl, (blk_cell BK322.out 1).trans rfl, (blk_cell BK322.out 2).trans rfl, (blk_cell BK335.out 0).trans rfl, (blk_cell BK335.out 1).trans rfl, (blk_cell BK335.out 2).trans rfl, (blk_cell BK335.out 3).trans rfl, (blk_cell BK335.out 4).trans rfl, (blk_cell BK335.out 5).trans rfl⟩ (fun hHeld => ?_)
                        clear hK K
                        refine norm_ (a' := ?_) ?_ ?_
                        rotate_left
                        · show Act.put _ (some 58) _ = _
                          simp only [Act.put, List.setIfInBounds_toArray, List.set_cons_zero, List.set_cons_succ, i64_w, i32_w]
                          rfl
                        refine one_ (i := 3) (N := some 60) #[true, true, true, true, false, false] rfl rfl (by kernel_rfl) (by decide) (fun K hK => ?_)
                        refine goes_ Tryd.func46 (by kernel_rfl) rfl #[.agg #[.bool t336, .int .u64 t337, .int .u64 t338, .int .u64 t339, .int .u64 t340, .int .u64 t341], .agg #[.bool (!t329), .int .u64 t330, .int .u64 t331, .int .u64 t332, .int .u64 t333, .int .u64 t334]] (by rfl) rfl rfl (by (try simp only [List.map_toArray, List.map_cons, List.map_nil]); first | done | rfl | (simp only [List.length_drop, List.length_take]; rfl)) ?_
                        with_reducible refine (chanceryref17_add.calls t336 t337 t338 t339 t340 t341 (!t329) t330 t331 t332 t333 t334 t342 t343 t344 t345 t346 t347 _ A53.out).mono ?_
                        rintro e w65 ⟨rfl, hb⟩
                        refine ⟨_, rfl, ?_⟩
                        have n0_ := Aside0.mk (blk_below (g := gb322) (o := .cells #[.int .u8 a1_0, .int .i64 a1_1, .string a1_2] 25 (0, 0)) (by (with_reducible repeat (first | refine blk_drewN ?_ _ | refine blk_drew ?_ | refine blk_alloc ?_ _)); exact BK322.out) hb)
                        have n1_ := Aside0.mk (blk_below (g := gb323) (o := .cells #[.int .u8 a2_0, .int .i64 a2_1, .string a2_2] 25 (0, 0)) (by (with_reducible repeat (first | refine blk_drewN ?_ _ | refine blk_drew ?_ | refine blk_alloc ?_ _)); exact BK323.out) hb)
                        have n2_ := Aside0.mk (blk_below (g := gb335) (o := .cells #[.bool (!t329), .int .u64 t330, .int .u64 t331, .int .u64 t332, .int .u64 t333, .int .u64 t334] 56 (0, 0)) (by (with_reducible repeat (first | refine blk_drewN ?_ _ | refine blk_drew ?_ | refine blk_alloc ?_ _)); exact BK335.out) hb)
                        have n3_ := Aside0.mk (below_step (by repeat (first | (with_reducible first | exact HB.out | apply below_alloc | apply pw_below_drewN | apply below_drew1 | refine below_set ?_ GE322.out | refine below_set ?_ GE323.out | refine below_set ?_ GE335.out) | exact HB.out)) hb)
                        clear BK322
                        clear BK323
                        clear BK335
                        clear HB
                        have BK322 := n0_
                        have BK323 := n1_
                        have BK335 := n2_
                        have HB := n3_
                        clear n0_ n1_ n2_ n3_
                        (try clear hb)
                        (try clear hb2)
                        (try clear hk)
                        (try clear hi)
                        refine hK.out _ _ ⟨(blk_cell BK322.out 0).trans rfl, (blk_cell BK322.out 1).trans rfl, (blk_cell BK322.out 2).trans rfl, (blk_cell BK335.out 0).trans rfl, (blk_cell BK335.out 1).trans rfl, (blk_cell BK335.out 2).trans rfl, (blk_cell BK335.out 3).trans rfl, (blk_cell BK335.out 4).trans rfl, (blk_cell BK335.out 5).trans rfl⟩ (fun hHeld => ?_)
                        clear hK K
                        refine norm_ (a' := ?_) ?_ ?_
                        rotate_left
                        · show Act.put _ (some 60) _ = _
                          simp only [Act.put, List.setIfInBounds_toArray, List.set_cons_zero, List.set_cons_succ, i64_w, i32_w]
                          rfl
                        refine one_ (i := 4) (N := some 61) #[true, true, true, true, true, false] rfl rfl (by kernel_rfl) (by decide) (fun K hK => ?_)
                        refine goes_ Tryd.func45 (by kernel_rfl) rfl #[.agg #[.bool t342, .int .u64 t343, .int .u64 t344, .int .u64 t345, .int .u64 t346, .int .u64 t347]] (by rfl) rfl rfl (by (try simp only [List.map_toArray, List.map_cons, List.map_nil]); first | done | rfl | (simp only [List.length_drop, List.length_take]; rfl)) ?_
                        with_reducible refine (chanceryref17_sign.calls t342 t343 t344 t345 t346 t347 t348 _ A54.out).mono ?_
                        rintro e w66 ⟨rfl, hb⟩
                        refine ⟨_, rfl, ?_⟩
                        have n0_ := Aside0.mk (blk_below (g := gb322) (o := .cells #[.int .u8 a1_0, .int .i64 a1_1, .string a1_2] 25 (0, 0)) (by (with_reducible repeat (first | refine blk_drewN ?_ _ | refine blk_drew ?_ | refine blk_alloc ?_ _)); exact BK322.out) hb)
                        have n1_ := Aside0.mk (blk_below (g := gb323) (o := .cells #[.int .u8 a2_0, .int .i64 a2_1, .string a2_2] 25 (0, 0)) (by (with_reducible repeat (first | refine blk_drewN ?_ _ | refine blk_drew ?_ | refine blk_alloc ?_ _)); exact BK323.out) hb)
                        have n2_ := Aside0.mk (blk_below (g := gb335) (o := .cells #[.bool (!t329), .int .u64 t330, .int .u64 t331, .int .u64 t332, .int .u64 t333, .int .u64 t334] 56 (0, 0)) (by (with_reducible repeat (first | refine blk_drewN ?_ _ | refine blk_drew ?_ | refine blk_alloc ?_ _)); exact BK335.out) hb)
                        have n3_ := Aside0.mk (below_step (by repeat (first | (with_reducible first | exact HB.out | apply below_alloc | apply pw_below_drewN | apply below_drew1 | refine below_set ?_ GE322.out | refine below_set ?_ GE323.out | refine below_set ?_ GE335.out) | exact HB.out)) hb)
                        clear BK322
                        clear BK323
                        clear BK335
                        clear HB
                        have BK322 := n0_
                        have BK323 := n1_
                        have BK335 := n2_
                        have HB := n3_
                        clear n0_ n1_ n2_ n3_
                        (try clear hb)
                        (try clear hb2)
                        (try clear hk)
                        (try clear hi)
                        refine hK.out _ _ ⟨(blk_cell BK322.out 0).trans rfl, (blk_cell BK322.out 1).trans rfl, (blk_cell BK322.out 2).trans rfl, (blk_cell BK335.out 0).trans rfl, (blk_cell BK335.out 1).trans rfl, (blk_cell BK335.out 2).trans rfl, (blk_cell BK335.out 3).trans rfl, (blk_cell BK335.out 4).trans rfl, (blk_cell BK335.out 5).trans rfl⟩ (fun hHeld => ?_)
                        clear hK K
                        refine norm_ (a' := ?_) ?_ ?_
                        rotate_left
                        · show Act.put _ (some 61) _ = _
                          simp only [Act.put, List.setIfInBounds_toArray, List.set_cons_zero, List.set_cons_succ, i64_w, i32_w]
                          rfl
                        refine pure_ (i := 5) (N := some 8) (v := ?_) (a' := ?_) #[true, true, true, true, true, true] rfl rfl (by kernel_rfl) (fun _ _ _ h => h) (Or.inl ⟨by rfl, ?_⟩) ?_ ?_
                        rotate_left
                        · intro w'
                          go_simp
                          with_reducible rfl
                        rotate_left
                        · simp only [Act.put, List.setIfInBounds_toArray, List.set_cons_zero, List.set_cons_succ, i64_w, i32_w]
                          rfl
                        refine done_ (by kernel_rfl) ?_
                        try go_wp2
                        go_meet
                        case rel => exact ⟨_, (t348), (by first | rfl | (simp; done) | (simp [*]; done)), H', ⟨by have := HJ3.out; have := HJ20.out; have := HJ37.out; first | omega | exact Nat.le_refl _⟩, ⟨by (with_reducible repeat (first | refine blk_drewN ?_ _ | refine blk_drew ?_ | refine blk_alloc ?_ _)); exact BK322.out⟩, ⟨by (with_reducible repeat (first | refine blk_drewN ?_ _ | refine blk_drew ?_ | refine blk_alloc ?_ _)); exact BK323.out⟩, ⟨by repeat (first | (with_reducible first | exact HB.out | apply below_alloc | apply pw_below_drewN | apply below_drew1 | refine below_set ?_ GE322.out | refine below_set ?_ GE323.out | refine below_set ?_ GE335.out) | exact HB.out)⟩⟩
              case rest =>
                clear HC30
                try clear c1
                try clear c2
                try clear p2
                try clear c3
                try clear c4
                try clear c5
                try clear c6
                try clear c7
                try clear c7b0
                try clear c8
                try clear c8b0
                try clear c10
                try clear c12
                try clear c17
                try clear c20
                try clear c22
                try clear c22b0
                try clear c22b1
                try clear c23
                try clear c25
                try clear c28
                try clear c31
                try clear c37
                try clear c37b0
                try clear c37b1
                try clear c40
                try clear c42
                try clear c43
                try clear c44
                try clear c45
                try clear c46
                try clear c47
                try clear c50
                try clear c55
                try clear c59
                try clear c60
                try clear hcz13_0
                try clear hcz13_1
                try clear hcz13_2
                try clear hcz15_0
                try clear hcz15_1
                try clear hcz15_2
                try clear hcz18_0
                try clear hcz18_1
                try clear hcz18_2
                try clear hcz24_0
                try clear hcz24_1
                try clear hcz24_2
                try clear hcz26_0
                try clear hcz26_1
                try clear hcz26_2
                try clear hcz27_0
                try clear hcz27_1
                try clear hcz27_2
                try clear hcz32_0
                try clear hcz32_1
                try clear hcz32_2
                try clear hcz33_0
                try clear hcz33_1
                try clear hcz33_2
                try clear hcz35_0
                try clear hcz35_1
                try clear hcz35_2
                try clear hcz36_0
                try clear hcz36_1
                try clear hcz36_2
                try clear hcz43_0
                try clear hcz43_1
                try clear hcz43_2
                try clear hcz45_0
                try clear hcz45_1
                try clear hcz45_2
                try clear hcz48_0
                try clear hcz48_1
                try clear hcz48_2
                try clear hcz56_0
                try clear hcz56_1
                try clear hcz56_2
                try clear hcz61_0
                try clear hcz61_1
                try clear hcz61_2
                try clear hcz61_3
                try clear hcz61_4
                try clear hcz61_5
                try clear hfz13_0
                try clear hfz13_1
                try clear hfz13_2
                try clear hfz15_0
                try clear hfz15_1
                try clear hfz15_2
                try clear hfz18_0
                try clear hfz18_1
                try clear hfz18_2
                try clear hfz24_0
                try clear hfz24_1
                try clear hfz24_2
                try clear hfz26_0
                try clear hfz26_1
                try clear hfz26_2
                try clear hfz27_0
                try clear hfz27_1
                try clear hfz27_2
                try clear hfz32_0
                try clear hfz32_1
                try clear hfz32_2
                try clear hfz33_0
                try clear hfz33_1
                try clear hfz33_2
                try clear hfz35_0
                try clear hfz35_1
                try clear hfz35_2
                try clear hfz36_0
                try clear hfz36_1
                try clear hfz36_2
                try clear hfz43_0
                try clear hfz43_1
                try clear hfz43_2
                try clear hfz45_0
                try clear hfz45_1
                try clear hfz45_2
                try clear hfz48_0
                try clear hfz48_1
                try clear hfz48_2
                try clear hfz56_0
                try clear hfz56_1
                try clear hfz56_2
                try clear hfz61_0
                try clear hfz61_1
                try clear hfz61_2
                try clear hfz61_3
                try clear hfz61_4
                try clear hfz61_5
                try clear p2
                obtain ⟨kq, x8_29, rfl, HA, HJ29, BK322, BK323, HB⟩ := hcut
                cases kq with
                | zero => exact absurd HA.out (by simp [chanceryref17_Compare.j3])
                | succ kj29 =>
                  have H := HA.out
                  clear HA
                  simp only [chanceryref17_Compare.j3] at H
                  by_cases c67 : a0 = 7
                  · rw [if_pos c67] at H
                    have c67b0 : (a0 == 7) = true := beq_iff_eq.mpr c67
                    have c67b1 : (a0 != 7) = false := bne_eq_false_iff_eq.mpr c67
                    clear c67
                    by_cases c68 : x8_29 = 0
                    · rw [if_pos c68] at H
                      have c68b0 : (x8_29 == 0) = true := beq_iff_eq.mpr c68
                      have c68b1 : (x8_29 != 0) = false := bne_eq_false_iff_eq.mpr c68
                      clear c68
                      simp only [Option.some.injEq, Prod.mk.injEq] at H
                      obtain ⟨rfl, rfl⟩ := H
                      go_wp2
                      go_ret2
                      exact ⟨by first | rfl | (simp [errW_none, errW_some] <;> rfl) | (simp [*, errW_none, errW_some] <;> rfl), by repeat (first | (with_reducible first | exact HB.out | apply below_alloc | apply pw_below_drewN | apply below_drew1 | refine below_set ?_ GE322.out | refine below_set ?_ GE323.out) | exact HB.out)⟩
                    · rw [if_neg c68] at H
                      have c68b0 : (x8_29 == 0) = false := beq_eq_false_iff_ne.mpr c68
                      have c68b1 : (x8_29 != 0) = true := bne_iff_ne.mpr c68
                      simp only [Option.some.injEq, Prod.mk.injEq] at H
                      obtain ⟨rfl, rfl⟩ := H
                      go_wp2
                      go_ret2
                      exact ⟨by first | rfl | (simp [errW_none, errW_some] <;> rfl) | (simp [*, errW_none, errW_some] <;> rfl), by repeat (first | (with_reducible first | exact HB.out | apply below_alloc | apply pw_below_drewN | apply below_drew1 | refine below_set ?_ GE322.out | refine below_set ?_ GE323.out) | exact HB.out)⟩
                  · rw [if_neg c67] at H
                    have c67b0 : (a0 == 7) = false := beq_eq_false_iff_ne.mpr c67
                    have c67b1 : (a0 != 7) = true := bne_iff_ne.mpr c67
                    by_cases c69 : a0 = 8
                    · rw [if_pos c69] at H
                      have c69b0 : (a0 == 8) = true := beq_iff_eq.mpr c69
                      have c69b1 : (a0 != 8) = false := bne_eq_false_iff_eq.mpr c69
                      clear c69
                      by_cases c70 : x8_29 = 0
                      · rw [if_pos c70] at H
                        have c70b0 : (x8_29 == 0) = true := beq_iff_eq.mpr c70
                        have c70b1 : (x8_29 != 0) = false := bne_eq_false_iff_eq.mpr c70
                        clear c70
                        simp only [Option.some.injEq, Prod.mk.injEq] at H
                        obtain ⟨rfl, rfl⟩ := H
                        go_wp2
                        go_ret2
                        exact ⟨by first | rfl | (simp [errW_none, errW_some] <;> rfl) | (simp [*, errW_none, errW_some] <;> rfl), by repeat (first | (with_reducible first | exact HB.out | apply below_alloc | apply pw_below_drewN | apply below_drew1 | refine below_set ?_ GE322.out | refine below_set ?_ GE323.out) | exact HB.out)⟩
                      · rw [if_neg c70] at H
                        have c70b0 : (x8_29 == 0) = false := beq_eq_false_iff_ne.mpr c70
                        have c70b1 : (x8_29 != 0) = true := bne_iff_ne.mpr c70
                        simp only [Option.some.injEq, Prod.mk.injEq] at H
                        obtain ⟨rfl, rfl⟩ := H
                        go_wp2
                        go_ret2
                        exact ⟨by first | rfl | (simp [errW_none, errW_some] <;> rfl) | (simp [*, errW_none, errW_some] <;> rfl), by repeat (first | (with_reducible first | exact HB.out | apply below_alloc | apply pw_below_drewN | apply below_drew1 | refine below_set ?_ GE322.out | refine below_set ?_ GE323.out) | exact HB.out)⟩
                    · rw [if_neg c69] at H
                      have c69b0 : (a0 == 8) = false := beq_eq_false_iff_ne.mpr c69
                      have c69b1 : (a0 != 8) = true := bne_iff_ne.mpr c69
                      by_cases c71 : a0 = 9
                      · rw [if_pos c71] at H
                        have c71b0 : (a0 == 9) = true := beq_iff_eq.mpr c71
                        have c71b1 : (a0 != 9) = false := bne_eq_false_iff_eq.mpr c71
                        clear c71
                        by_cases c72 : x8_29 < 0
                        · rw [if_pos c72] at H
                          have c72b0 : decide (x8_29 < 0) = true := decide_eq_true c72
                          clear c72
                          simp only [Option.some.injEq, Prod.mk.injEq] at H
                          obtain ⟨rfl, rfl⟩ := H
                          go_wp2
                          go_ret2
                          exact ⟨by first | rfl | (simp [errW_none, errW_some] <;> rfl) | (simp [*, errW_none, errW_some] <;> rfl), by repeat (first | (with_reducible first | exact HB.out | apply below_alloc | apply pw_below_drewN | apply below_drew1 | refine below_set ?_ GE322.out | refine below_set ?_ GE323.out) | exact HB.out)⟩
                        · rw [if_neg c72] at H
                          have c72b0 : decide (x8_29 < 0) = false := decide_eq_false c72
                          clear c72
                          simp only [Option.some.injEq, Prod.mk.injEq] at H
                          obtain ⟨rfl, rfl⟩ := H
                          go_wp2
                          go_ret2
                          exact ⟨by first | rfl | (simp [errW_none, errW_some] <;> rfl) | (simp [*, errW_none, errW_some] <;> rfl), by repeat (first | (with_reducible first | exact HB.out | apply below_alloc | apply pw_below_drewN | apply below_drew1 | refine below_set ?_ GE322.out | refine below_set ?_ GE323.out) | exact HB.out)⟩
                      · rw [if_neg c71] at H
                        have c71b0 : (a0 == 9) = false := beq_eq_false_iff_ne.mpr c71
                        have c71b1 : (a0 != 9) = true := bne_iff_ne.mpr c71
                        by_cases c73 : a0 = 10
                        · rw [if_pos c73] at H
                          have c73b0 : (a0 == 10) = true := beq_iff_eq.mpr c73
                          have c73b1 : (a0 != 10) = false := bne_eq_false_iff_eq.mpr c73
                          clear c73
                          by_cases c74 : x8_29 ≤ 0
                          · rw [if_pos c74] at H
                            have c74b0 : decide (x8_29 ≤ 0) = true := decide_eq_true c74
                            clear c74
                            simp only [Option.some.injEq, Prod.mk.injEq] at H
                            obtain ⟨rfl, rfl⟩ := H
                            go_wp2
                            go_ret2
                            exact ⟨by first | rfl | (simp [errW_none, errW_some] <;> rfl) | (simp [*, errW_none, errW_some] <;> rfl), by repeat (first | (with_reducible first | exact HB.out | apply below_alloc | apply pw_below_drewN | apply below_drew1 | refine below_set ?_ GE322.out | refine below_set ?_ GE323.out) | exact HB.out)⟩
                          · rw [if_neg c74] at H
                            have c74b0 : decide (x8_29 ≤ 0) = false := decide_eq_false c74
                            clear c74
                            simp only [Option.some.injEq, Prod.mk.injEq] at H
                            obtain ⟨rfl, rfl⟩ := H
                            go_wp2
                            go_ret2
                            exact ⟨by first | rfl | (simp [errW_none, errW_some] <;> rfl) | (simp [*, errW_none, errW_some] <;> rfl), by repeat (first | (with_reducible first | exact HB.out | apply below_alloc | apply pw_below_drewN | apply below_drew1 | refine below_set ?_ GE322.out | refine below_set ?_ GE323.out) | exact HB.out)⟩
                        · rw [if_neg c73] at H
                          have c73b0 : (a0 == 10) = false := beq_eq_false_iff_ne.mpr c73
                          have c73b1 : (a0 != 10) = true := bne_iff_ne.mpr c73
                          by_cases c75 : a0 = 11
                          · rw [if_pos c75] at H
                            have c75b0 : (a0 == 11) = true := beq_iff_eq.mpr c75
                            have c75b1 : (a0 != 11) = false := bne_eq_false_iff_eq.mpr c75
                            clear c75
                            by_cases c76 : x8_29 > 0
                            · rw [if_pos c76] at H
                              have c76b0 : decide (0 < x8_29) = true := decide_eq_true c76
                              clear c76
                              simp only [Option.some.injEq, Prod.mk.injEq] at H
                              obtain ⟨rfl, rfl⟩ := H
                              go_wp2
                              go_ret2
                              exact ⟨by first | rfl | (simp [errW_none, errW_some] <;> rfl) | (simp [*, errW_none, errW_some] <;> rfl), by repeat (first | (with_reducible first | exact HB.out | apply below_alloc | apply pw_below_drewN | apply below_drew1 | refine below_set ?_ GE322.out | refine below_set ?_ GE323.out) | exact HB.out)⟩
                            · rw [if_neg c76] at H
                              have c76b0 : decide (0 < x8_29) = false := decide_eq_false c76
                              clear c76
                              simp only [Option.some.injEq, Prod.mk.injEq] at H
                              obtain ⟨rfl, rfl⟩ := H
                              go_wp2
                              go_ret2
                              exact ⟨by first | rfl | (simp [errW_none, errW_some] <;> rfl) | (simp [*, errW_none, errW_some] <;> rfl), by repeat (first | (with_reducible first | exact HB.out | apply below_alloc | apply pw_below_drewN | apply below_drew1 | refine below_set ?_ GE322.out | refine below_set ?_ GE323.out) | exact HB.out)⟩
                          · rw [if_neg c75] at H
                            have c75b0 : (a0 == 11) = false := beq_eq_false_iff_ne.mpr c75
                            have c75b1 : (a0 != 11) = true := bne_iff_ne.mpr c75
                            by_cases c77 : a0 = 12
                            · rw [if_pos c77] at H
                              have c77b0 : (a0 == 12) = true := beq_iff_eq.mpr c77
                              have c77b1 : (a0 != 12) = false := bne_eq_false_iff_eq.mpr c77
                              clear c77
                              by_cases c78 : x8_29 ≥ 0
                              · rw [if_pos c78] at H
                                have c78b0 : decide (0 ≤ x8_29) = true := decide_eq_true c78
                                clear c78
                                simp only [Option.some.injEq, Prod.mk.injEq] at H
                                obtain ⟨rfl, rfl⟩ := H
                                go_wp2
                                go_ret2
                                exact ⟨by first | rfl | (simp [errW_none, errW_some] <;> rfl) | (simp [*, errW_none, errW_some] <;> rfl), by repeat (first | (with_reducible first | exact HB.out | apply below_alloc | apply pw_below_drewN | apply below_drew1 | refine below_set ?_ GE322.out | refine below_set ?_ GE323.out) | exact HB.out)⟩
                              · rw [if_neg c78] at H
                                have c78b0 : decide (0 ≤ x8_29) = false := decide_eq_false c78
                                clear c78
                                simp only [Option.some.injEq, Prod.mk.injEq] at H
                                obtain ⟨rfl, rfl⟩ := H
                                go_wp2
                                go_ret2
                                exact ⟨by first | rfl | (simp [errW_none, errW_some] <;> rfl) | (simp [*, errW_none, errW_some] <;> rfl), by repeat (first | (with_reducible first | exact HB.out | apply below_alloc | apply pw_below_drewN | apply below_drew1 | refine below_set ?_ GE322.out | refine below_set ?_ GE323.out) | exact HB.out)⟩
                            · rw [if_neg c77] at H
                              have c77b0 : (a0 == 12) = false := beq_eq_false_iff_ne.mpr c77
                              have c77b1 : (a0 != 12) = true := bne_iff_ne.mpr c77
                              simp only [Option.some.injEq, Prod.mk.injEq] at H
                              obtain ⟨rfl, rfl⟩ := H
                              go_wp2
                              go_ret2
                              exact ⟨by first | rfl | (simp [errW_none, errW_some] <;> rfl) | (simp [*, errW_none, errW_some] <;> rfl), by repeat (first | (with_reducible first | exact HB.out | apply below_alloc | apply pw_below_drewN | apply below_drew1 | refine below_set ?_ GE322.out | refine below_set ?_ GE323.out) | exact HB.out)⟩
end Go.Proofs.YtbodlnoipkommaaDoor.Q

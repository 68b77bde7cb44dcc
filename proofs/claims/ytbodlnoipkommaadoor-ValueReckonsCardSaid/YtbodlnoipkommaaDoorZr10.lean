/- Merged out of this session's texts: Qxf25, Pj, Xc, Xd, Qxf49, Qxf50, Pe, Xa, Xr -/
import Derived.Test.YtbodlnoipkommaaDoorZr3
import Derived.Test.YtbodlnoipkommaaDoorZr7
import Derived.Test.YtbodlnoipkommaaDoorZr6
import Derived.Test.YtbodlnoipkommaaDoorZr8
import Derived.Test.YtbodlnoipkommaaDoorZr9
import Derived.Test.YtbodlnoipkommaaDoorZr5
import Derived.Test.YtbodlnoipkommaaDoorZr4
import Derived.Deep.RegionHeld3
import Derived.Deep.DeepCutAuto
set_option linter.unusedVariables false
set_option linter.unusedSimpArgs false
namespace Go.Proofs.YtbodlnoipkommaaDoor.Q
open Go.Proofs.YtbodlnoipkommaaDoor.Rc
open Go.RowKit Go.Proofs.YtbodlnoipkommaaDoorW.PrintWords Go.Proofs.YtbodlnoipkommaaDoorW.PrintLast Go.Proofs.YtbodlnoipkommaaDoorW.PrintMore
attribute [local go_sem] max2_int min2_int max_two min_two max_three min_three max_four min_four
set_option linter.unusedVariables false
set_option linter.unusedSimpArgs false
def rf17_Neg.j0 : Nat → Int → Bool → Int → Int → ByteArray → Option (Int × Int × ByteArray × Int)
 | 0, _, _, _, _, _ => none
 | k + 1, x5, x22, x536000, x536001, x536002 => if x22 = true then (some (0, 0, (⟨#[]⟩ : ByteArray), x5)) else ((rf17_big.f x536001).bind fun bt539 => ((rf17_answer.f x536000 (!bt539.1) bt539.2.1 bt539.2.2.1 bt539.2.2.2.1 bt539.2.2.2.2.1 bt539.2.2.2.2.2).bind fun bt546 => (some (bt546.1, bt546.2.1, bt546.2.2.1, bt546.2.2.2))))
def rf17_Neg.f (k : Nat) (a0_0 : Int) (a0_1 : Int) (a0_2 : ByteArray) : Option (Int × Int × ByteArray × Int) := (rf17_asked.f k a0_0 a0_1 a0_2 0 0 (⟨#[]⟩ : ByteArray)).bind fun bt537 => (if bt537.2 = 0 then (if bt537.1 = true then (rf17_Neg.j0 k bt537.2 (a0_0 == 0) a0_0 a0_1 a0_2) else (rf17_Neg.j0 k bt537.2 false a0_0 a0_1 a0_2)) else (rf17_Neg.j0 k bt537.2 true a0_0 a0_1 a0_2))
set_option maxHeartbeats 8000000 in
set_option maxRecDepth 100000 in
theorem rf17_Neg.calls (k : Nat) (a0_0 : Int) (a0_1 : Int) (a0_2 : ByteArray) (r1 : Int) (r2 : Int) (r3 : ByteArray) (r4 : Int) (w : World) (h : rf17_Neg.f k a0_0 a0_1 a0_2 = some (r1, r2, r3, r4)) :
  Calls Tryd.prog 25 #[.agg #[.int .u8 a0_0, .int .i64 a0_1, .string a0_2]] w fun e w' => e = .returned (.tuple #[.agg #[.int .u8 r1, .int .i64 r2, .string r3], .int .i64 r4]) ∧ Below w.heap.size w w' := by
 have hu25 := Tryd.underlying25
 have hu56 := Tryd.underlying56
 have HB := Aside0.mk (Below.refl w.heap.size w)
 have H : ((rf17_asked.f k a0_0 a0_1 a0_2 0 0 (⟨#[]⟩ : ByteArray)).bind fun bt537 => (if bt537.2 = 0 then (if bt537.1 = true then (rf17_Neg.j0 k bt537.2 (a0_0 == 0) a0_0 a0_1 a0_2) else (rf17_Neg.j0 k bt537.2 false a0_0 a0_1 a0_2)) else (rf17_Neg.j0 k bt537.2 true a0_0 a0_1 a0_2))) = some (r1, r2, r3, r4) := h
 clear h
 replace H := Option.bind_eq_some_iff.mp H
 obtain ⟨⟨t537, t538⟩, A20, H⟩ := H
 replace H : (if t538 = 0 then (if t537 = true then (rf17_Neg.j0 k t538 (a0_0 == 0) a0_0 a0_1 a0_2) else (rf17_Neg.j0 k t538 false a0_0 a0_1 a0_2)) else (rf17_Neg.j0 k t538 true a0_0 a0_1 a0_2)) = some (r1, r2, r3, r4) := H
 have A2 := Aside0.mk A20
 clear A20
 have HC3 := Aside0.mk H
 clear H
 go_enter Tryd.func25, Tryd.ntmps25
 go_upto_region 2 with (first | ((with_reducible refine gate_dst (N := 1) rfl ?_); refine box_event ?hg (N := 1) ?hd (cs := #[.int .u8 a0_0, .int .i64 a0_1, .string a0_2]) (t := 25) ?hr ?_; (case hd => rfl); (case hg => rfl); (case hr => first | (go_simp; done) | (go_simp; rfl)); intro gb535 hg w4 hbox hb; have n0_ := Aside0.mk (below_step (bw HB.out) hb); have n1_ := Aside0.mk (hbox); have n2_ := Aside0.mk ((by rw [hg]; exact (below_size (bw HB.out)) : w.heap.size ≤ gb535)); have n3_ := Aside0.mk ((by rw [hg]; exact (below_size (bw HB.out)) : w.heap.size ≤ gb535)); clear HB; have HB := n0_; have BK535 := n1_; have GW535 := n2_; have GE535 := n3_; clear n0_ n1_ n2_ n3_; clear hb hbox hg) | ((with_reducible refine gate_dst (N := 2) rfl ?_); refine box_event ?hg (N := 2) ?hd (cs := #[.int .u8 0, .int .i64 0, .string (⟨#[]⟩ : ByteArray)]) (t := 25) ?hr ?_; (case hd => rfl); (case hg => rfl); (case hr => first | (go_simp; done) | (go_simp; rfl)); intro gb536 hg w5 hbox hb; have n0_ := Aside0.mk (blk_below (bk BK535.out) hb); have n1_ := Aside0.mk (below_step (by repeat (first | (with_reducible first | exact HB.out | apply below_alloc | apply pw_below_drewN | apply below_drew1 | refine below_set ?_ GE535.out) | exact HB.out)) hb); have n2_ := Aside0.mk (hbox); have n3_ := Aside0.mk ((by rw [hg]; exact (below_size (by repeat (first | (with_reducible first | exact HB.out | apply below_alloc | apply pw_below_drewN | apply below_drew1 | refine below_set ?_ GE535.out) | exact HB.out))) : w.heap.size ≤ gb536)); have n4_ := Aside0.mk ((by rw [hg]; exact (below_size (by repeat (first | (with_reducible first | exact HB.out | apply below_alloc | apply pw_below_drewN | apply below_drew1 | refine below_set ?_ GE535.out) | exact HB.out))) : w.heap.size ≤ gb536)); have n5_ := Aside0.mk ((by rw [hg]; exact Nat.ne_of_lt (blk_lt (g := gb535) (o := .cells #[.int .u8 a0_0, .int .i64 a0_1, .string a0_2] 25 (0, 0)) (bk BK535.out)) : gb535 ≠ gb536)); have n6_ := Aside0.mk ((by rw [hg]; exact Nat.ne_of_gt (blk_lt (g := gb535) (o := .cells #[.int .u8 a0_0, .int .i64 a0_1, .string a0_2] 25 (0, 0)) (bk BK535.out)) : gb536 ≠ gb535)); clear BK535; clear HB; have BK535 := n0_; have HB := n1_; have BK536 := n2_; have GW536 := n3_; have GE536 := n4_; have NB535_536 := n5_; have NB536_535 := n6_; clear n0_ n1_ n2_ n3_ n4_ n5_ n6_; clear hb hbox hg; have hnb6 := NB535_536.out; have hnc6 := NB536_535.out; have hcz7_0 : w5.cell? ⟨gb535, 0, none⟩ = some (.int .u8 a0_0) := (blk_cell BK535.out 0).trans rfl; have hcz7_1 : w5.cell? ⟨gb535, 1, none⟩ = some (.int .i64 a0_1) := (blk_cell BK535.out 1).trans rfl; have hcz7_2 : w5.cell? ⟨gb535, 2, none⟩ = some (.string a0_2) := (blk_cell BK535.out 2).trans rfl; have hfz7_0 := blk_frozen BK535.out 0; have hfz7_1 := blk_frozen BK535.out 1; have hfz7_2 := blk_frozen BK535.out 2) | ((with_reducible refine gate_callee (f := 64) rfl ?_); refine goesL_ (some 10) rfl rfl Tryd.func64 (by kernel_rfl) rfl #[.agg #[.int .u8 a0_0, .int .i64 a0_1, .string a0_2], .agg #[.int .u8 0, .int .i64 0, .string (⟨#[]⟩ : ByteArray)]] rfl (by (try simp only [List.map_toArray, List.map_cons, List.map_nil]); first | done | rfl | (simp only [List.length_drop, List.length_take]; rfl)) ?_; (with_reducible refine (rf17_asked.calls k a0_0 a0_1 a0_2 0 0 (⟨#[]⟩ : ByteArray) t537 t538 _ A2.out).mono ?_); rintro e w8 ⟨rfl, hb⟩; refine ⟨_, rfl, ?_⟩; have n0_ := Aside0.mk (blk_below (bk BK535.out) hb); have n1_ := Aside0.mk (blk_below (bk BK536.out) hb); have n2_ := Aside0.mk (below_step (by repeat (first | (with_reducible first | exact HB.out | apply below_alloc | apply pw_below_drewN | apply below_drew1 | refine below_set ?_ (Aside0.out (by assumption))) | exact HB.out)) hb); clear BK535; clear BK536; clear HB; have BK535 := n0_; have BK536 := n1_; have HB := n2_; clear n0_ n1_ n2_; (try clear hb); (try clear hb2); (try clear hk); (try clear hi)))
 (try simp only [Act.put, List.setIfInBounds_toArray, List.set_cons_zero, List.set_cons_succ])
 go_cut [22] (fun v22 wc => ∃ (kq : Nat) (x22_2 : Bool), v22 = .bool x22_2 ∧ Aside0 (rf17_Neg.j0 kq t538 x22_2 a0_0 a0_1 a0_2 = some (r1, r2, r3, r4)) ∧ Aside0 (kq ≤ k) ∧ Aside0 (wc.heap[gb535]? = some (.cells #[.int .u8 a0_0, .int .i64 a0_1, .string a0_2] 25 (0, 0))) ∧ Aside0 (wc.heap[gb536]? = some (.cells #[.int .u8 0, .int .i64 0, .string (⟨#[]⟩ : ByteArray)] 25 (0, 0))) ∧ Aside0 (Below w.heap.size w wc))
 case first =>
  have H := HC3.out
  clear HC3
  by_cases c9 : t538 = 0
  ·rw [if_pos c9] at H
   have c9b0 : (t538 == 0) = true := beq_iff_eq.mpr c9
   have c9b1 : (t538 != 0) = false := bne_eq_false_iff_eq.mpr c9
   clear c9
   (first | rw [c9b0] | (simp only [i64_w, i32_w]; rw [c9b0]) | skip)
   by_cases c10 : t537 = true
   ·subst c10
    have H1 : (rf17_Neg.j0 k t538 (a0_0 == 0) a0_0 a0_1 a0_2) = some (r1, r2, r3, r4) := by rw [if_pos rfl] at H; exact H
    clear H
    have H := H1
    clear H1
    have H' := Aside0.mk H
    clear H
    have hnb11 := NB535_536.out
    have hnc11 := NB536_535.out
    have hcz12_0 : w8.cell? ⟨gb535, 0, none⟩ = some (.int .u8 a0_0) := (blk_cell BK535.out 0).trans rfl
    have hcz12_1 : w8.cell? ⟨gb535, 1, none⟩ = some (.int .i64 a0_1) := (blk_cell BK535.out 1).trans rfl
    have hcz12_2 : w8.cell? ⟨gb535, 2, none⟩ = some (.string a0_2) := (blk_cell BK535.out 2).trans rfl
    have hfz12_0 := blk_frozen BK535.out 0
    have hfz12_1 := blk_frozen BK535.out 1
    have hfz12_2 := blk_frozen BK535.out 2
    go_wp2
    go_meet
    case rel => exact ⟨_, ((a0_0 == 0)), (by first | rfl | (simp; done) | (simp [*]; done)), H', ⟨by first | omega | exact Nat.le_refl _⟩, ⟨bk BK535.out⟩, ⟨bk BK536.out⟩, ⟨by repeat (first | (with_reducible first | exact HB.out | apply below_alloc | apply pw_below_drewN | apply below_drew1 | refine below_set ?_ (Aside0.out (by assumption))) | exact HB.out)⟩⟩
   ·replace c10 := Bool.eq_false_iff.mpr c10
    subst c10
    have H1 : (rf17_Neg.j0 k t538 false a0_0 a0_1 a0_2) = some (r1, r2, r3, r4) := by rw [if_neg (show ¬ (false = true) by decide)] at H; exact H
    clear H
    have H := H1
    clear H1
    have H' := Aside0.mk H
    clear H
    go_wp2
    go_meet
    case rel => exact ⟨_, (false), (by first | rfl | (simp; done) | (simp [*]; done)), H', ⟨by first | omega | exact Nat.le_refl _⟩, ⟨bk BK535.out⟩, ⟨bk BK536.out⟩, ⟨by repeat (first | (with_reducible first | exact HB.out | apply below_alloc | apply pw_below_drewN | apply below_drew1 | refine below_set ?_ (Aside0.out (by assumption))) | exact HB.out)⟩⟩
  ·rw [if_neg c9] at H
   have c9b0 : (t538 == 0) = false := beq_eq_false_iff_ne.mpr c9
   have c9b1 : (t538 != 0) = true := bne_iff_ne.mpr c9
   (first | rw [c9b0] | (simp only [i64_w, i32_w]; rw [c9b0]) | skip)
   have H' := Aside0.mk H
   clear H
   go_wp2
   go_meet
   case rel => exact ⟨_, (true), (by first | rfl | (simp; done) | (simp [*]; done)), H', ⟨by first | omega | exact Nat.le_refl _⟩, ⟨bk BK535.out⟩, ⟨bk BK536.out⟩, ⟨by repeat (first | (with_reducible first | exact HB.out | apply below_alloc | apply pw_below_drewN | apply below_drew1 | refine below_set ?_ (Aside0.out (by assumption))) | exact HB.out)⟩⟩
 case rest =>
  clear HC3
  try clear c1
  try clear c2
  try clear p2
  try clear c6
  try clear c9
  try clear c9b0
  try clear c9b1
  try clear c10
  try clear c11
  try clear hcz12_0
  try clear hcz12_1
  try clear hcz12_2
  try clear hcz7_0
  try clear hcz7_1
  try clear hcz7_2
  try clear hfz12_0
  try clear hfz12_1
  try clear hfz12_2
  try clear hfz7_0
  try clear hfz7_1
  try clear hfz7_2
  obtain ⟨kq, x22_2, rfl, HA, HJ2, BK535, BK536, HB⟩ := hcut
  cases kq with
  | zero => exact absurd HA.out (by simp [rf17_Neg.j0])
  | succ kj2 =>
   have H := HA.out
   clear HA
   simp only [rf17_Neg.j0] at H
   by_cases c13 : x22_2 = true
   ·subst c13
    have H1 : (some (0, 0, (⟨#[]⟩ : ByteArray), t538)) = some (r1, r2, r3, r4) := by rw [if_pos rfl] at H; exact H
    clear H
    have H := H1
    clear H1
    simp only [Option.some.injEq, Prod.mk.injEq] at H
    obtain ⟨rfl, rfl, rfl, rfl⟩ := H
    have hnb14 := NB536_535.out
    have hnc14 := NB535_536.out
    have hcz15_0 : wc.cell? ⟨gb536, 0, none⟩ = some (.int .u8 0) := (blk_cell BK536.out 0).trans rfl
    have hcz15_1 : wc.cell? ⟨gb536, 1, none⟩ = some (.int .i64 0) := (blk_cell BK536.out 1).trans rfl
    have hcz15_2 : wc.cell? ⟨gb536, 2, none⟩ = some (.string (⟨#[]⟩ : ByteArray)) := (blk_cell BK536.out 2).trans rfl
    have hfz15_0 := blk_frozen BK536.out 0
    have hfz15_1 := blk_frozen BK536.out 1
    have hfz15_2 := blk_frozen BK536.out 2
    go_wp2
    refine bodyPost_ret (results_ct rfl _ _ gb536 25 #[.int .u8 0, .int .i64 0, .string (⟨#[]⟩ : ByteArray)] (0, 0) _ rfl (by (with_reducible repeat first | apply blk_drewN | apply blk_drew | apply blk_alloc); refine blk_put (cs := #[.int .u8 0, .int .i64 0, .string (⟨#[]⟩ : ByteArray)]) ?_ 2 _ rfl; (with_reducible repeat first | apply blk_drewN | apply blk_drew | apply blk_alloc); refine blk_put (cs := #[.int .u8 0, .int .i64 0, .string (⟨#[]⟩ : ByteArray)]) ?_ 1 _ rfl; (with_reducible repeat first | apply blk_drewN | apply blk_drew | apply blk_alloc); refine blk_put (cs := #[.int .u8 0, .int .i64 0, .string (⟨#[]⟩ : ByteArray)]) ?_ 0 _ rfl; (with_reducible repeat first | apply blk_drewN | apply blk_drew | apply blk_alloc); exact BK536.out) Tryd.underlying25 rfl (by kernel_rfl)) rfl ?_
    exact ⟨by first | rfl | (simp [errW_none, errW_some] <;> rfl) | (simp [*, errW_none, errW_some] <;> rfl), by repeat (first | (with_reducible first | exact HB.out | apply below_alloc | apply pw_below_drewN | apply below_drew1 | refine below_set ?_ (Aside0.out (by assumption))) | exact HB.out)⟩
   ·replace c13 := Bool.eq_false_iff.mpr c13
    subst c13
    have H1 : ((rf17_big.f a0_1).bind fun bt539 => ((rf17_answer.f a0_0 (!bt539.1) bt539.2.1 bt539.2.2.1 bt539.2.2.2.1 bt539.2.2.2.2.1 bt539.2.2.2.2.2).bind fun bt546 => (some (bt546.1, bt546.2.1, bt546.2.2.1, bt546.2.2.2)))) = some (r1, r2, r3, r4) := by rw [if_neg (show ¬ (false = true) by decide)] at H; exact H
    clear H
    have H := H1
    clear H1
    replace H := Option.bind_eq_some_iff.mp H
    obtain ⟨⟨t539, t540, t541, t542, t543, t544⟩, A160, H⟩ := H
    replace H : ((rf17_answer.f a0_0 (!t539) t540 t541 t542 t543 t544).bind fun bt546 => (some (bt546.1, bt546.2.1, bt546.2.2.1, bt546.2.2.2))) = some (r1, r2, r3, r4) := H
    have A16 := Aside0.mk A160
    clear A160
    replace H := Option.bind_eq_some_iff.mp H
    obtain ⟨⟨t546, t547, t548, t549⟩, A170, H⟩ := H
    replace H : (some (t546, t547, t548, t549)) = some (r1, r2, r3, r4) := H
    have A17 := Aside0.mk A170
    clear A170
    simp only [Option.some.injEq, Prod.mk.injEq] at H
    obtain ⟨rfl, rfl, rfl, rfl⟩ := H
    have hnb18 := NB535_536.out
    have hnc18 := NB536_535.out
    have hcz19_0 : wc.cell? ⟨gb535, 0, none⟩ = some (.int .u8 a0_0) := (blk_cell BK535.out 0).trans rfl
    have hcz19_1 : wc.cell? ⟨gb535, 1, none⟩ = some (.int .i64 a0_1) := (blk_cell BK535.out 1).trans rfl
    have hcz19_2 : wc.cell? ⟨gb535, 2, none⟩ = some (.string a0_2) := (blk_cell BK535.out 2).trans rfl
    have hfz19_0 := blk_frozen BK535.out 0
    have hfz19_1 := blk_frozen BK535.out 1
    have hfz19_2 := blk_frozen BK535.out 2
    go_wp2_with (first | ((with_reducible refine gate_callee (f := 66) rfl ?_); refine goesL_ (some 27) rfl rfl Tryd.func66 (by kernel_rfl) rfl #[.int .i64 a0_1] rfl (by (try simp only [List.map_toArray, List.map_cons, List.map_nil]); first | done | rfl | (simp only [List.length_drop, List.length_take]; rfl)) ?_; (with_reducible refine (rf17_big.calls a0_1 t539 t540 t541 t542 t543 t544 _ A16.out).mono ?_); rintro e w20 ⟨rfl, hb⟩; refine ⟨_, rfl, ?_⟩; have n0_ := Aside0.mk (blk_below (bk BK535.out) hb); have n1_ := Aside0.mk (blk_below (bk BK536.out) hb); have n2_ := Aside0.mk (below_step (by repeat (first | (with_reducible first | exact HB.out | apply below_alloc | apply pw_below_drewN | apply below_drew1 | refine below_set ?_ (Aside0.out (by assumption))) | exact HB.out)) hb); clear BK535; clear BK536; clear HB; have BK535 := n0_; have BK536 := n1_; have HB := n2_; clear n0_ n1_ n2_; (try clear hb); (try clear hb2); (try clear hk); (try clear hi)) | ((with_reducible refine gate_dst (N := 6) rfl ?_); refine box_event ?hg (N := 6) ?hd (cs := #[.bool false, .int .u64 0, .int .u64 0, .int .u64 0, .int .u64 0, .int .u64 0]) (t := 56) ?hr ?_; (case hd => rfl); (case hg => rfl); (case hr => first | (go_simp; done) | (go_simp; rfl)); intro gb545 hg w21 hbox hb; have n0_ := Aside0.mk (blk_below (bk BK535.out) hb); have n1_ := Aside0.mk (blk_below (bk BK536.out) hb); have n2_ := Aside0.mk (below_step (by repeat (first | (with_reducible first | exact HB.out | apply below_alloc | apply pw_below_drewN | apply below_drew1 | refine below_set ?_ (Aside0.out (by assumption))) | exact HB.out)) hb); have n3_ := Aside0.mk (hbox); have n4_ := Aside0.mk ((by rw [hg]; exact (below_size (by repeat (first | (with_reducible first | exact HB.out | apply below_alloc | apply pw_below_drewN | apply below_drew1 | refine below_set ?_ (Aside0.out (by assumption))) | exact HB.out))) : w.heap.size ≤ gb545)); have n5_ := Aside0.mk ((by rw [hg]; exact (below_size (by repeat (first | (with_reducible first | exact HB.out | apply below_alloc | apply pw_below_drewN | apply below_drew1 | refine below_set ?_ (Aside0.out (by assumption))) | exact HB.out))) : w.heap.size ≤ gb545)); have n6_ := Aside0.mk ((by rw [hg]; exact Nat.ne_of_lt (blk_lt (g := gb535) (o := .cells #[.int .u8 a0_0, .int .i64 a0_1, .string a0_2] 25 (0, 0)) (bk BK535.out)) : gb535 ≠ gb545)); have n7_ := Aside0.mk ((by rw [hg]; exact Nat.ne_of_gt (blk_lt (g := gb535) (o := .cells #[.int .u8 a0_0, .int .i64 a0_1, .string a0_2] 25 (0, 0)) (bk BK535.out)) : gb545 ≠ gb535)); have n8_ := Aside0.mk ((by rw [hg]; exact Nat.ne_of_lt (blk_lt (g := gb536) (o := .cells #[.int .u8 0, .int .i64 0, .string (⟨#[]⟩ : ByteArray)] 25 (0, 0)) (bk BK536.out)) : gb536 ≠ gb545)); have n9_ := Aside0.mk ((by rw [hg]; exact Nat.ne_of_gt (blk_lt (g := gb536) (o := .cells #[.int .u8 0, .int .i64 0, .string (⟨#[]⟩ : ByteArray)] 25 (0, 0)) (bk BK536.out)) : gb545 ≠ gb536)); clear BK535; clear BK536; clear HB; have BK535 := n0_; have BK536 := n1_; have HB := n2_; have BK545 := n3_; have GW545 := n4_; have GE545 := n5_; have NB535_545 := n6_; have NB545_535 := n7_; have NB536_545 := n8_; have NB545_536 := n9_; clear n0_ n1_ n2_ n3_ n4_ n5_ n6_ n7_ n8_ n9_; clear hb hbox hg; have hnb22 := NB545_535.out; have hnc22 := NB535_545.out; have hnb23 := NB545_536.out; have hnc23 := NB536_545.out; have hcz24_0 : w21.cell? ⟨gb545, 0, none⟩ = some (.bool false) := (blk_cell BK545.out 0).trans rfl; have hcz24_1 : w21.cell? ⟨gb545, 1, none⟩ = some (.int .u64 0) := (blk_cell BK545.out 1).trans rfl; have hcz24_2 : w21.cell? ⟨gb545, 2, none⟩ = some (.int .u64 0) := (blk_cell BK545.out 2).trans rfl; have hcz24_3 : w21.cell? ⟨gb545, 3, none⟩ = some (.int .u64 0) := (blk_cell BK545.out 3).trans rfl; have hcz24_4 : w21.cell? ⟨gb545, 4, none⟩ = some (.int .u64 0) := (blk_cell BK545.out 4).trans rfl; have hcz24_5 : w21.cell? ⟨gb545, 5, none⟩ = some (.int .u64 0) := (blk_cell BK545.out 5).trans rfl; have hfz24_0 := blk_frozen BK545.out 0; have hfz24_1 := blk_frozen BK545.out 1; have hfz24_2 := blk_frozen BK545.out 2; have hfz24_3 := blk_frozen BK545.out 3; have hfz24_4 := blk_frozen BK545.out 4; have hfz24_5 := blk_frozen BK545.out 5; have hcz25_0 : w21.cell? ⟨gb535, 0, none⟩ = some (.int .u8 a0_0) := (blk_cell BK535.out 0).trans rfl; have hcz25_1 : w21.cell? ⟨gb535, 1, none⟩ = some (.int .i64 a0_1) := (blk_cell BK535.out 1).trans rfl; have hcz25_2 : w21.cell? ⟨gb535, 2, none⟩ = some (.string a0_2) := (blk_cell BK535.out 2).trans rfl; have hfz25_0 := blk_frozen BK535.out 0; have hfz25_1 := blk_frozen BK535.out 1; have hfz25_2 := blk_frozen BK535.out 2) | ((with_reducible refine gate_callee (f := 65) rfl ?_); refine goesL_ (some 35) rfl rfl Tryd.func65 (by kernel_rfl) rfl #[.int .u8 a0_0, .agg #[.bool (!t539), .int .u64 t540, .int .u64 t541, .int .u64 t542, .int .u64 t543, .int .u64 t544]] rfl (by (try simp only [List.map_toArray, List.map_cons, List.map_nil]); first | done | rfl | (simp only [List.length_drop, List.length_take]; rfl)) ?_; (with_reducible refine (rf17_answer.calls a0_0 (!t539) t540 t541 t542 t543 t544 t546 t547 t548 t549 _ A17.out).mono ?_); rintro e w26 ⟨rfl, hb⟩; refine ⟨_, rfl, ?_⟩; have n0_ := Aside0.mk (blk_below (g := gb535) (o := .cells #[.int .u8 a0_0, .int .i64 a0_1, .string a0_2] 25 (0, 0)) (by (with_reducible repeat (first | refine blk_drewN ?_ _ | refine blk_drew ?_ | refine blk_alloc ?_ _ | refine blk_far ?_ NB535_545.out _)); exact BK535.out) hb); have n1_ := Aside0.mk (blk_below (g := gb536) (o := .cells #[.int .u8 0, .int .i64 0, .string (⟨#[]⟩ : ByteArray)] 25 (0, 0)) (by (with_reducible repeat (first | refine blk_drewN ?_ _ | refine blk_drew ?_ | refine blk_alloc ?_ _ | refine blk_far ?_ NB536_545.out _)); exact BK536.out) hb); have n2_ := Aside0.mk (blk_below (g := gb545) (o := .cells #[.bool (!t539), .int .u64 t540, .int .u64 t541, .int .u64 t542, .int .u64 t543, .int .u64 t544] 56 (0, 0)) (by (with_reducible repeat first | apply blk_drewN | apply blk_drew | apply blk_alloc); refine blk_put (cs := #[.bool t539, .int .u64 t540, .int .u64 t541, .int .u64 t542, .int .u64 t543, .int .u64 t544]) ?_ 0 _ rfl; (with_reducible repeat first | apply blk_drewN | apply blk_drew | apply blk_alloc); refine blk_put (cs := #[.bool t539, .int .u64 t540, .int .u64 t541, .int .u64 t542, .int .u64 t543, .int .u64 0]) ?_ 5 _ rfl; refine blk_put (cs := #[.bool t539, .int .u64 t540, .int .u64 t541, .int .u64 t542, .int .u64 0, .int .u64 0]) ?_ 4 _ rfl; refine blk_put (cs := #[.bool t539, .int .u64 t540, .int .u64 t541, .int .u64 0, .int .u64 0, .int .u64 0]) ?_ 3 _ rfl; refine blk_put (cs := #[.bool t539, .int .u64 t540, .int .u64 0, .int .u64 0, .int .u64 0, .int .u64 0]) ?_ 2 _ rfl; refine blk_put (cs := #[.bool t539, .int .u64 0, .int .u64 0, .int .u64 0, .int .u64 0, .int .u64 0]) ?_ 1 _ rfl; refine blk_put (cs := #[.bool false, .int .u64 0, .int .u64 0, .int .u64 0, .int .u64 0, .int .u64 0]) ?_ 0 _ rfl; (with_reducible repeat first | apply blk_drewN | apply blk_drew | apply blk_alloc); exact BK545.out) hb); have n3_ := Aside0.mk (below_step (by repeat (first | (with_reducible first | exact HB.out | apply below_alloc | apply pw_below_drewN | apply below_drew1 | refine below_set ?_ (Aside0.out (by assumption))) | exact HB.out)) hb); clear BK535; clear BK536; clear BK545; clear HB; have BK535 := n0_; have BK536 := n1_; have BK545 := n2_; have HB := n3_; clear n0_ n1_ n2_ n3_; (try clear hb); (try clear hb2); (try clear hk); (try clear hi); have hcz27_0 : w26.cell? ⟨gb536, 0, none⟩ = some (.int .u8 0) := (blk_cell BK536.out 0).trans rfl; have hcz27_1 : w26.cell? ⟨gb536, 1, none⟩ = some (.int .i64 0) := (blk_cell BK536.out 1).trans rfl; have hcz27_2 : w26.cell? ⟨gb536, 2, none⟩ = some (.string (⟨#[]⟩ : ByteArray)) := (blk_cell BK536.out 2).trans rfl; have hfz27_0 := blk_frozen BK536.out 0; have hfz27_1 := blk_frozen BK536.out 1; have hfz27_2 := blk_frozen BK536.out 2))
    refine bodyPost_ret (results_ct rfl _ _ gb536 25 #[.int .u8 t546, .int .i64 t547, .string t548] (0, 0) _ rfl (by (with_reducible repeat first | apply blk_drewN | apply blk_drew | apply blk_alloc); refine blk_put (cs := #[.int .u8 t546, .int .i64 t547, .string (⟨#[]⟩ : ByteArray)]) ?_ 2 _ rfl; (with_reducible repeat first | apply blk_drewN | apply blk_drew | apply blk_alloc); refine blk_put (cs := #[.int .u8 t546, .int .i64 0, .string (⟨#[]⟩ : ByteArray)]) ?_ 1 _ rfl; (with_reducible repeat first | apply blk_drewN | apply blk_drew | apply blk_alloc); refine blk_put (cs := #[.int .u8 0, .int .i64 0, .string (⟨#[]⟩ : ByteArray)]) ?_ 0 _ rfl; (with_reducible repeat first | apply blk_drewN | apply blk_drew | apply blk_alloc); exact BK536.out) Tryd.underlying25 rfl (by kernel_rfl)) rfl ?_
    exact ⟨by first | rfl | (simp [errW_none, errW_some] <;> rfl) | (simp [*, errW_none, errW_some] <;> rfl), by repeat (first | (with_reducible first | exact HB.out | apply below_alloc | apply pw_below_drewN | apply below_drew1 | refine below_set ?_ (Aside0.out (by assumption))) | exact HB.out)⟩
end Go.Proofs.YtbodlnoipkommaaDoor.Q
namespace Go.Proofs.YtbodlnoipkommaaDoor.Pj
open Go Go.RowKit Go.Proofs.YtbodlnoipkommaaDoor.Q Go.Proofs.YtbodlnoipkommaaDoor.Ra Go.Proofs.YtbodlnoipkommaaDoor.Rb Go.Proofs.YtbodlnoipkommaaDoor.Rc Go.Proofs.YtbodlnoipkommaaDoor.Rd Go.Proofs.YtbodlnoipkommaaDoor.We Go.Proofs.YtbodlnoipkommaaDoor.Wh Go.Proofs.YtbodlnoipkommaaDoor.Wj Go.Proofs.YtbodlnoipkommaaDoor.Wk Go.Proofs.YtbodlnoipkommaaDoor.Wo Go.Proofs.YtbodlnoipkommaaDoor.Wp Go.Proofs.YtbodlnoipkommaaDoor.Pa Go.Proofs.YtbodlnoipkommaaDoor.Pb Go.Proofs.YtbodlnoipkommaaDoor.Pc Go.Proofs.YtbodlnoipkommaaDoor.Ph Go.Proofs.YtbodlnoipkommaaDoorW.PrintWords Go.Proofs.YtbodlnoipkommaaDoorW.PrintLast Go.Proofs.YtbodlnoipkommaaDoorW.PrintMore
theorem sz_of {m : Int} (h0 : 0 ≤ m) (h1 : m ≤ 1000000000000000000000000000000000000000000000) : Sz m := ⟨h0, by omega⟩
theorem sumB (x y : Int) (hx : absI x ≤ 92233720368547758080000) (hy : absI y ≤ 92233720368547758080000) (k : Int) (s t : Bool) (vx vy : Int) (ex : vl s (absI x) = vx) (ey : vl t (absI y) = vy) :
    (rf17_add.f s (d0 (absI x)) (d1 (absI x)) (d2 (absI x)) (d3 (absI x)) (d4 (absI x)) t (d0 (absI y)) (d1 (absI y)) (d2 (absI y)) (d3 (absI y)) (d4 (absI y))).bind (fun b => rf17_answer.f k b.1 b.2.1 b.2.2.1 b.2.2.2.1 b.2.2.2.2.1 b.2.2.2.2.2) = some (toldR k (vx + vy)) := by
  have a0 : 0 ≤ absI x := by unfold absI; split <;> omega
  have a1 : 0 ≤ absI y := by unfold absI; split <;> omega
  obtain ⟨u, c, he, hc, hv⟩ := addB s (absI x) t (absI y) (sz_of a0 (by omega)) (sz_of a1 (by omega)) (sz_of (by omega) (by omega))
  rw [he]
  simp only [Option.bind_some, B]
  rw [answerB k u c hc, hv, ex, ey]
theorem abs_i64 {n : Int} (h : I64 n) : absI n ≤ 92233720368547758080000 := by have := (abs64 n h).2; omega
theorem bind4 (o : Option V4) : (o.bind fun b => some (b.1, b.2.1, b.2.2.1, b.2.2.2)) = o := by cases o <;> rfl
theorem ref_add (j : Nat) (k0 n0 : Int) (s0 : ByteArray) (k1 n1 : Int) (s1 : ByteArray) (h0 : I64 n0) (h1 : I64 n1) :
    rf17_Add.f (j + 2) k0 n0 s0 k1 n1 s1 = some (addR k0 n0 s0 k1 n1 s1) := by
  unfold rf17_Add.f addR
  rw [ref_asked (j + 1)]
  simp only [Option.bind_some]
  have hj : ∀ e, rf17_Add.j0 (j + 2) e true k0 n0 s0 k1 n1 s1 = some (0, 0, ⟨#[]⟩, e) := fun e => by rw [rf17_Add.j0]; rfl
  by_cases he : (askedR k0 n0 s0 k1 n1 s1).2 = 0
  · rw [if_pos he]
    cases hb : (askedR k0 n0 s0 k1 n1 s1).1
    · rw [if_neg (by rintro (c | c); exact c he; cases c), rf17_Add.j0, if_neg (by decide)]
      by_cases hk : k0 = 2 ∧ k1 = 2
      · rw [if_pos hk.1, show (k1 == 2) = true from beq_iff_eq.2 hk.2, if_pos hk, rf17_Add.j1, if_pos rfl, bigB n0 h0, bigB n1 h1]
        simp only [Option.bind_some, B, bind4]
        exact sumB n0 n1 (abs_i64 h0) (abs_i64 h1) 2 _ _ _ _ (vl_abs n0) (vl_abs n1)
      · have hj1 : rf17_Add.j1 (j + 1) false k0 n0 s0 k1 n1 s1 = some (toldR 3 (fixV k0 n0 + fixV k1 n1)) := by
          rw [rf17_Add.j1, if_neg (by decide), fixedB k0 n0 s0 h0, fixedB k1 n1 s1 h1]
          simp only [Option.bind_some, B, bind4]
          exact sumB _ _ (fix_abs k0 n0 h0).2 (fix_abs k1 n1 h1).2 3 _ _ _ _ (vl_abs _) (vl_abs _)
        rw [if_neg hk]
        by_cases h2 : k0 = 2
        · rw [if_pos h2, show (k1 == 2) = false from beq_false_of_ne (fun c => hk ⟨h2, c⟩), hj1]
        · rw [if_neg h2, hj1]
    · rw [hj, if_pos (Or.inr rfl)]
  · rw [if_neg he, hj, if_pos (Or.inl he)]
def negR (k n : Int) (s : ByteArray) : V4 :=
  if (askedR k n s 0 0 ⟨#[]⟩).2 ≠ 0 ∨ k = 0 then (0, 0, ⟨#[]⟩, (askedR k n s 0 0 ⟨#[]⟩).2) else toldR k (-n)
theorem neg_f (j : Nat) (k n : Int) (s : ByteArray) (h : I64 n) : value_Neg.f (j + 1) k n s = some (negR k n s) := by
  unfold value_Neg.f negR value_asked.f
  simp only [Option.bind_some]
  have hj : ∀ e, value_Neg.j0 (j + 1) e true k n s = some (0, 0, ⟨#[]⟩, e) := fun e => by rw [value_Neg.j0]; rfl
  by_cases he : (askedR k n s 0 0 ⟨#[]⟩).2 = 0
  · rw [if_pos he]
    by_cases hk : k = 0
    · rw [show (k == 0) = true from beq_iff_eq.2 hk, hj, if_pos (Or.inr hk)]
    · rw [show (k == 0) = false from beq_false_of_ne hk, if_neg (by rintro (c | c); exact c he; exact hk c), value_Neg.j0, if_neg (by decide), of_f n h]
      simp only [Option.bind_some]
      have hr := I128_of_I64 h
      rw [minus_f n hr.1 hr.2]
      simp only [Option.bind_some]
      rw [told_fR _ _ hr.2]; rfl
  · rw [if_neg he, hj, if_pos (Or.inl he)]
theorem asked_null (k n : Int) (s : ByteArray) (h : (askedR k n s 0 0 ⟨#[]⟩).2 = 0) : (askedR k n s 0 0 ⟨#[]⟩).1 = true := by
  unfold askedR at h ⊢
  split at h
  · cases h
  · rename_i h1
    rw [if_neg h1]
    split at h
    · cases h
    · rename_i h2
      rw [if_neg h2]; simp
theorem ref_neg (j : Nat) (k n : Int) (s : ByteArray) (h : I64 n) : rf17_Neg.f (j + 1) k n s = some (negR k n s) := by
  unfold rf17_Neg.f negR
  rw [ref_asked j]
  simp only [Option.bind_some]
  have hj : ∀ e, rf17_Neg.j0 (j + 1) e true k n s = some (0, 0, ⟨#[]⟩, e) := fun e => by rw [rf17_Neg.j0]; rfl
  by_cases he : (askedR k n s 0 0 ⟨#[]⟩).2 = 0
  · rw [if_pos he, if_pos (asked_null k n s he)]
    by_cases hk : k = 0
    · rw [show (k == 0) = true from beq_iff_eq.2 hk, hj, if_pos (Or.inr hk)]
    · rw [show (k == 0) = false from beq_false_of_ne hk, if_neg (by rintro (c | c); exact c he; exact hk c), rf17_Neg.j0, if_neg (by decide), bigB n h]
      simp only [Option.bind_some, B]
      have ha := abs64 n h
      rw [answerB _ _ _ (sz_of ha.1 (by omega))]
      simp only [Option.bind_some]
      have e : vl (!decide (n < 0)) (absI n) = -n := by
        unfold vl absI
        by_cases c : n < 0
        · rw [if_neg (by simp [c]), if_pos c]
        · rw [if_pos (by simp [c]), if_neg c]
      rw [e]
  · rw [if_neg he, hj, if_pos (Or.inl he)]
theorem refmul_j1 (j : Nat) (up s : Bool) (a b c d e : Int) (q : Int) (h0 : 0 ≤ q) (h1 : q ≤ 85070591730234615865843651857942052864) :
    rf17_Mul.j1 (j + 1) up s a b c d e (d0 q) (d1 q) (d2 q) (d3 q) (d4 q) = some (toldR 3 (vl s (if up = true then q + 1 else q))) := by
  rw [rf17_Mul.j1]
  cases up
  · simp only [Bool.false_eq_true, if_false]
    rw [answerB 3 s q (sz_of h0 (by omega))]; rfl
  · simp only [if_true]
    have e1 := plus_fR q 1 (sz_of h0 (by omega)) (sz_of (by decide) (by decide))
    rw [show d0 1 = 1 from rfl, show d1 1 = 0 from rfl, show d2 1 = 0 from rfl, show d3 1 = 0 from rfl, show d4 1 = 0 from rfl] at e1
    rw [e1]
    simp only [Option.bind_some]
    rw [answerB 3 s (q + 1) (sz_of (by omega) (by omega))]; rfl
theorem abs_mulI (a b : Int) : absI a * absI b = absI (a * b) := by
  have e : ∀ x : Int, absI x = (x.natAbs : Int) := fun x => by unfold absI; omega
  rw [e, e, e, Int.natAbs_mul]; rfl
theorem sign_mul (a b : Int) (h : a * b ≠ 0) : ((decide (a < 0)) != (decide (b < 0))) = decide (a * b < 0) := by
  have ha : a ≠ 0 := by rintro rfl; exact h (Int.zero_mul _)
  have hb : b ≠ 0 := by rintro rfl; exact h (Int.mul_zero _)
  by_cases h1 : a < 0 <;> by_cases h2 : b < 0
  · have := Int.mul_pos_of_neg_of_neg h1 h2
    have e : ¬ (a * b < 0) := by omega
    simp [h1, h2, e]
  · have e := Int.mul_neg_of_neg_of_pos h1 (show 0 < b by omega)
    simp [h1, h2, e]
  · have e := Int.mul_neg_of_pos_of_neg (show 0 < a by omega) h2
    simp [h1, h2, e]
  · have := Int.mul_pos (show 0 < a by omega) (show 0 < b by omega)
    have e : ¬ (a * b < 0) := by omega
    simp [h1, h2, e]
theorem vl_prod (a b f : Int) (hf : a * b = 0 → f = 0) : vl ((decide (a < 0)) != (decide (b < 0))) f = if a * b < 0 then -f else f := by
  by_cases h : a * b = 0
  · rw [hf h, h]; unfold vl; split <;> rfl
  · rw [sign_mul a b h]; unfold vl
    by_cases c : a * b < 0
    · rw [if_pos (by simpa using c), if_pos c]
    · rw [if_neg (by simpa using c), if_neg c]
theorem ref_mul (j : Nat) (k0 n0 : Int) (s0 : ByteArray) (k1 n1 : Int) (s1 : ByteArray) (h0 : I64 n0) (h1 : I64 n1) :
    rf17_Mul.f (j + 2) k0 n0 s0 k1 n1 s1 = some (mulR k0 n0 s0 k1 n1 s1) := by
  unfold rf17_Mul.f mulR
  rw [ref_asked (j + 1)]
  simp only [Option.bind_some]
  have hj : ∀ e, rf17_Mul.j0 (j + 2) e true k0 n0 s0 k1 n1 s1 = some (0, 0, ⟨#[]⟩, e) := fun e => by rw [rf17_Mul.j0]; rfl
  by_cases he : (askedR k0 n0 s0 k1 n1 s1).2 = 0
  · rw [if_pos he]
    cases hb : (askedR k0 n0 s0 k1 n1 s1).1
    · rw [if_neg (by rintro (c | c); exact c he; cases c), rf17_Mul.j0, if_neg (by decide), bigB n0 h0, bigB n1 h1]
      simp only [Option.bind_some, B]
      have a0 := abs64 n0 h0
      have a1 := abs64 n1 h1
      rw [timesB _ _ _ _ ⟨a0.1, by omega⟩ ⟨a1.1, by omega⟩, abs_mulI]
      simp only [Option.bind_some, B]
      have hp := abs_prod n0 n1 h0 h1
      have hz : n0 * n1 = 0 → absI (n0 * n1) = 0 := fun e => by rw [e]; rfl
      have hv : vl ((decide (n0 < 0)) != (decide (n1 < 0))) (absI (n0 * n1)) = n0 * n1 := by
        rw [vl_prod n0 n1 _ hz]
        unfold absI
        by_cases c : n0 * n1 < 0
        · rw [if_pos c, if_pos c]; omega
        · rw [if_neg c, if_neg c]
      have hs : Sz (absI (n0 * n1)) := sz_of hp.1 (by omega)
      have ha : ∀ k, rf17_answer.f k ((decide (n0 < 0)) != (decide (n1 < 0))) (d0 (absI (n0 * n1))) (d1 (absI (n0 * n1))) (d2 (absI (n0 * n1))) (d3 (absI (n0 * n1))) (d4 (absI (n0 * n1))) = some (toldR k (n0 * n1)) := fun k => by rw [answerB k _ _ hs, hv]
      by_cases hk : k0 = k1
      · rw [if_pos hk, if_neg (show ¬ (k0 ≠ k1) from fun c => c hk)]
        by_cases h2 : k0 = 2
        · rw [if_pos h2, if_pos h2, ha]; rfl
        · rw [if_neg h2, if_neg h2, less_fR _ hs]
          simp only [Option.bind_some]
          have q0 : 0 ≤ absI (n0 * n1) / 10000 := by omega
          have q1 : absI (n0 * n1) / 10000 ≤ 85070591730234615865843651857942052864 := by omega
          rw [refmul_j1 _ _ _ _ _ _ _ _ _ q0 q1, refmul_j1 _ _ _ _ _ _ _ _ _ q0 q1, refmul_j1 _ _ _ _ _ _ _ _ _ q0 q1]
          have hd : Int.tmod (d0 (absI (n0 * n1) / 10000)) 2 = absI (n0 * n1) / 10000 % 2 := by
            rw [Int.tmod_eq_emod_of_nonneg (by unfold d0; omega)]; unfold d0; omega
          rw [hd, ← vl_prod n0 n1 _ (fun e => by rw [e]; rfl)]
          generalize absI (n0 * n1) = A at *
          unfold rnd
          by_cases c1 : A % 10000 > 5000
          · simp only [c1, if_true, true_or]
          · by_cases c2 : A % 10000 = 5000
            · by_cases c3 : A / 10000 % 2 = 1
              · simp only [c2, c3, if_true, true_and, or_true, ite_self, beq_self_eq_true]
              · have c4 : (A / 10000 % 2 == 1) = false := beq_false_of_ne c3
                simp only [c2, c3, c4, if_true, if_false, and_false, or_false, Bool.false_eq_true]
                rfl
            · simp only [c1, c2, if_false, false_and, or_self, Bool.false_eq_true]
      · rw [if_neg hk, if_pos (show k0 ≠ k1 from hk), ha]; rfl
    · rw [hj, if_pos (Or.inr rfl)]
  · rw [if_neg he, hj, if_pos (Or.inl he)]
end Go.Proofs.YtbodlnoipkommaaDoor.Pj
namespace Go.Proofs.YtbodlnoipkommaaDoor.Xc
open Go.RowKit Go.Proofs.YtbodlnoipkommaaDoor.Q Go.Proofs.YtbodlnoipkommaaDoor.We Go.Proofs.YtbodlnoipkommaaDoor.Wh Go.Proofs.YtbodlnoipkommaaDoor.Wi Go.Proofs.YtbodlnoipkommaaDoor.Wj Go.Proofs.YtbodlnoipkommaaDoor.Wm Go.Proofs.YtbodlnoipkommaaDoor.Wn Go.Proofs.YtbodlnoipkommaaDoor.Wp Go.Proofs.YtbodlnoipkommaaDoor.Pa Go.Proofs.YtbodlnoipkommaaDoor.Pb Go.Proofs.YtbodlnoipkommaaDoorW.PrintWords Go.Proofs.YtbodlnoipkommaaDoorW.PrintLast Go.Proofs.YtbodlnoipkommaaDoorW.PrintMore
abbrev Vl (k n : Int) (s : ByteArray) : Value := .agg #[.int .u8 k, .int .i64 n, .string s]
abbrev Res (a b : Int) : Ending := .returned (.tuple #[.int .u8 a, .int .i64 b])
theorem lt_alloc {W w' : World} {o : Obj} (hb : Below (W.alloc o).heap.size (W.alloc o) w') : W.heap.size < w'.heap.size := by have := hb.size; simp at this; omega
theorem lt_allocd {W w' : World} {o : Obj} (hb : Below (W.alloc o).drew.heap.size (W.alloc o).drew w') : W.heap.size < w'.heap.size := by have := hb.size; simp at this; omega
theorem lt_keep {W w' : World} {b : Nat} (hb : Below W.heap.size W w') (h : b < W.heap.size) : b < w'.heap.size := Nat.lt_of_lt_of_le h hb.size
theorem Res_eq {a b c : Int} (h : a = b) : Res a c = Res b c := by rw [h]
set_option maxRecDepth 100000 in
set_option maxHeartbeats 4000000 in
theorem c_lo (op k0 n0 : Int) (s0 : ByteArray) (k1 n1 : Int) (s1 : ByteArray) (w : World) (h : op < 7) :
    Calls Tryd.prog 9 #[.int .u8 op, Vl k0 n0 s0, Vl k1 n1 s1] w fun e w' => e = Res 0 2 ∧ Below w.heap.size w w' := by
  go_enter Tryd.func9, Tryd.ntmps9
  go_wp2_with fail
  go_ret2
  exact ⟨rfl, below_alloc (below_alloc (Below.refl _ _) _) _⟩
set_option maxRecDepth 100000 in
set_option maxHeartbeats 4000000 in
theorem c_hi (op k0 n0 : Int) (s0 : ByteArray) (k1 n1 : Int) (s1 : ByteArray) (w : World) (h' : ¬ op < 7) (h : op > 12) :
    Calls Tryd.prog 9 #[.int .u8 op, Vl k0 n0 s0, Vl k1 n1 s1] w fun e w' => e = Res 0 2 ∧ Below w.heap.size w w' := by
  go_enter Tryd.func9, Tryd.ntmps9
  go_wp2_with fail
  go_ret2
  exact ⟨rfl, below_alloc (below_alloc (Below.refl _ _) _) _⟩
set_option maxRecDepth 100000 in
set_option maxHeartbeats 4000000 in
theorem c_r0 (op k0 n0 : Int) (s0 : ByteArray) (k1 n1 : Int) (s1 : ByteArray) (w : World) (o7 : ¬ op < 7) (o12 : ¬ op > 12) (hr0 : rightB k0 n0 s0 = false) :
    Calls Tryd.prog 9 #[.int .u8 op, Vl k0 n0 s0, Vl k1 n1 s1] w fun e w' => e = Res 0 2 ∧ Below w.heap.size w w' := by
  have N := Aside0.mk (value_Right.calls 1 k0 n0 s0 (rightB k0 n0 s0) · (right_f 0 k0 n0 s0))
  rw [hr0] at N
  clear hr0
  go_enter Tryd.func9, Tryd.ntmps9
  go_wp2_with fail
  refine (N.out _).mono ?_
  rintro e w1 ⟨rfl, hb1⟩
  obtain ⟨c10, f10, l10⟩ := bcells hb1 (w.heap.size) (by first | assumption | (simp; done) | (simp; omega) | omega)
  obtain ⟨c11, f11, l11⟩ := bcells hb1 (w.heap.size + 1) (by first | assumption | (simp; done) | (simp; omega) | omega)
  replace hb1 := Aside0.mk hb1
  go_wp2_with fail
  go_ret2
  exact ⟨rfl, below_step (below_alloc (below_alloc (Below.refl _ _) _) _) hb1.out⟩
set_option maxRecDepth 100000 in
set_option maxHeartbeats 4000000 in
theorem c_r1 (op k0 n0 : Int) (s0 : ByteArray) (k1 n1 : Int) (s1 : ByteArray) (w : World) (o7 : ¬ op < 7) (o12 : ¬ op > 12) (hr0 : rightB k0 n0 s0 = true) (hr1 : rightB k1 n1 s1 = false) :
    Calls Tryd.prog 9 #[.int .u8 op, Vl k0 n0 s0, Vl k1 n1 s1] w fun e w' => e = Res 0 2 ∧ Below w.heap.size w w' := by
  have N := Aside0.mk (value_Right.calls 1 k0 n0 s0 (rightB k0 n0 s0) · (right_f 0 k0 n0 s0))
  rw [hr0] at N
  clear hr0
  have M := Aside0.mk (value_Right.calls 1 k1 n1 s1 (rightB k1 n1 s1) · (right_f 0 k1 n1 s1))
  rw [hr1] at M
  clear hr1
  go_enter Tryd.func9, Tryd.ntmps9
  go_wp2_with fail
  refine (N.out _).mono ?_
  rintro e w1 ⟨rfl, hb1⟩
  obtain ⟨c10, f10, l10⟩ := bcells hb1 (w.heap.size) (by first | assumption | (simp; done) | (simp; omega) | omega)
  obtain ⟨c11, f11, l11⟩ := bcells hb1 (w.heap.size + 1) (by first | assumption | (simp; done) | (simp; omega) | omega)
  replace hb1 := Aside0.mk hb1
  go_wp2_with fail
  refine (M.out _).mono ?_
  rintro e w2 ⟨rfl, hb2⟩
  obtain ⟨c20, f20, l20⟩ := bcells hb2 (w.heap.size) (by first | assumption | (simp; done) | (simp; omega) | omega)
  obtain ⟨c21, f21, l21⟩ := bcells hb2 (w.heap.size + 1) (by first | assumption | (simp; done) | (simp; omega) | omega)
  replace hb2 := Aside0.mk hb2
  go_wp2_with fail
  go_ret2
  exact ⟨rfl, below_step (below_step (below_alloc (below_alloc (Below.refl _ _) _) _) hb1.out) hb2.out⟩
set_option maxRecDepth 100000 in
set_option maxHeartbeats 4000000 in
theorem c_null0 (op k0 n0 : Int) (s0 : ByteArray) (k1 n1 : Int) (s1 : ByteArray) (w : World) (o7 : ¬ op < 7) (o12 : ¬ op > 12) (hr0 : rightB k0 n0 s0 = true) (hr1 : rightB k1 n1 s1 = true) (z0 : (k0 == 0) = true) :
    Calls Tryd.prog 9 #[.int .u8 op, Vl k0 n0 s0, Vl k1 n1 s1] w fun e w' => e = Res 2 0 ∧ Below w.heap.size w w' := by
  have N := Aside0.mk (value_Right.calls 1 k0 n0 s0 (rightB k0 n0 s0) · (right_f 0 k0 n0 s0))
  rw [hr0] at N
  clear hr0
  have M := Aside0.mk (value_Right.calls 1 k1 n1 s1 (rightB k1 n1 s1) · (right_f 0 k1 n1 s1))
  rw [hr1] at M
  clear hr1
  obtain rfl : k0 = 0 := by simpa using z0
  clear z0
  go_enter Tryd.func9, Tryd.ntmps9
  go_wp2_with fail
  refine (N.out _).mono ?_
  rintro e w1 ⟨rfl, hb1⟩
  obtain ⟨c10, f10, l10⟩ := bcells hb1 (w.heap.size) (by first | assumption | (simp; done) | (simp; omega) | omega)
  obtain ⟨c11, f11, l11⟩ := bcells hb1 (w.heap.size + 1) (by first | assumption | (simp; done) | (simp; omega) | omega)
  replace hb1 := Aside0.mk hb1
  go_wp2_with fail
  refine (M.out _).mono ?_
  rintro e w2 ⟨rfl, hb2⟩
  obtain ⟨c20, f20, l20⟩ := bcells hb2 (w.heap.size) (by first | assumption | (simp; done) | (simp; omega) | omega)
  obtain ⟨c21, f21, l21⟩ := bcells hb2 (w.heap.size + 1) (by first | assumption | (simp; done) | (simp; omega) | omega)
  replace hb2 := Aside0.mk hb2
  go_wp2_with fail
  go_ret2
  exact ⟨rfl, below_step (below_step (below_alloc (below_alloc (Below.refl _ _) _) _) hb1.out) hb2.out⟩
set_option maxRecDepth 100000 in
set_option maxHeartbeats 4000000 in
theorem c_null1 (op k0 n0 : Int) (s0 : ByteArray) (k1 n1 : Int) (s1 : ByteArray) (w : World) (o7 : ¬ op < 7) (o12 : ¬ op > 12) (hr0 : rightB k0 n0 s0 = true) (hr1 : rightB k1 n1 s1 = true) (z0 : (k0 == 0) = false) (z1 : (k1 == 0) = true) :
    Calls Tryd.prog 9 #[.int .u8 op, Vl k0 n0 s0, Vl k1 n1 s1] w fun e w' => e = Res 2 0 ∧ Below w.heap.size w w' := by
  have N := Aside0.mk (value_Right.calls 1 k0 n0 s0 (rightB k0 n0 s0) · (right_f 0 k0 n0 s0))
  rw [hr0] at N
  clear hr0
  have M := Aside0.mk (value_Right.calls 1 k1 n1 s1 (rightB k1 n1 s1) · (right_f 0 k1 n1 s1))
  rw [hr1] at M
  clear hr1
  obtain rfl : k1 = 0 := by simpa using z1
  clear z1
  go_enter Tryd.func9, Tryd.ntmps9
  go_wp2_with fail
  refine (N.out _).mono ?_
  rintro e w1 ⟨rfl, hb1⟩
  obtain ⟨c10, f10, l10⟩ := bcells hb1 (w.heap.size) (by first | assumption | (simp; done) | (simp; omega) | omega)
  obtain ⟨c11, f11, l11⟩ := bcells hb1 (w.heap.size + 1) (by first | assumption | (simp; done) | (simp; omega) | omega)
  replace hb1 := Aside0.mk hb1
  go_wp2_with fail
  refine (M.out _).mono ?_
  rintro e w2 ⟨rfl, hb2⟩
  obtain ⟨c20, f20, l20⟩ := bcells hb2 (w.heap.size) (by first | assumption | (simp; done) | (simp; omega) | omega)
  obtain ⟨c21, f21, l21⟩ := bcells hb2 (w.heap.size + 1) (by first | assumption | (simp; done) | (simp; omega) | omega)
  replace hb2 := Aside0.mk hb2
  go_wp2_with fail
  go_ret2
  exact ⟨rfl, below_step (below_step (below_alloc (below_alloc (Below.refl _ _) _) _) hb1.out) hb2.out⟩
set_option maxRecDepth 100000 in
set_option maxHeartbeats 4000000 in
theorem c_same (op k0 n0 : Int) (s0 : ByteArray) (k1 n1 : Int) (s1 : ByteArray) (w : World) (o7 : ¬ op < 7) (o12 : ¬ op > 12) (hr0 : rightB k0 n0 s0 = true) (hr1 : rightB k1 n1 s1 = true) (z0 : (k0 == 0) = false) (z1 : (k1 == 0) = false) (e : (k0 != k1) = false) :
    Calls Tryd.prog 9 #[.int .u8 op, Vl k0 n0 s0, Vl k1 n1 s1] w fun e w' => e = Res (boolT (cmpop op (orderR k0 n0 s0 k1 n1 s1))) 0 ∧ Below w.heap.size w w' := by
  have O := Aside0.mk (value_Order.calls k0 n0 s0 k1 n1 s1 _ · (order_f k0 n0 s0 k1 n1 s1))
  have hr := order_range k0 n0 s0 k1 n1 s1
  generalize orderR k0 n0 s0 k1 n1 s1 = c at *
  have N := Aside0.mk (value_Right.calls 1 k0 n0 s0 (rightB k0 n0 s0) · (right_f 0 k0 n0 s0))
  rw [hr0] at N
  clear hr0
  have M := Aside0.mk (value_Right.calls 1 k1 n1 s1 (rightB k1 n1 s1) · (right_f 0 k1 n1 s1))
  rw [hr1] at M
  clear hr1
  rcases hr with rfl | rfl | rfl
  all_goals
    go_enter Tryd.func9, Tryd.ntmps9
    go_wp2_with fail
    refine (N.out _).mono ?_
    rintro e w1 ⟨rfl, hb1⟩
    obtain ⟨c10, f10, l10⟩ := bcells hb1 (w.heap.size) (by first | assumption | (simp; done) | (simp; omega) | omega)
    obtain ⟨c11, f11, l11⟩ := bcells hb1 (w.heap.size + 1) (by first | assumption | (simp; done) | (simp; omega) | omega)
    replace hb1 := Aside0.mk hb1
    go_wp2_with fail
    refine (M.out _).mono ?_
    rintro e w2 ⟨rfl, hb2⟩
    obtain ⟨c20, f20, l20⟩ := bcells hb2 (w.heap.size) (by first | assumption | (simp; done) | (simp; omega) | omega)
    obtain ⟨c21, f21, l21⟩ := bcells hb2 (w.heap.size + 1) (by first | assumption | (simp; done) | (simp; omega) | omega)
    replace hb2 := Aside0.mk hb2
    go_wp2_with fail
    refine (O.out _).mono ?_
    rintro e w3 ⟨rfl, hb3⟩
    obtain ⟨c30, f30, l30⟩ := bcells hb3 (w.heap.size) (by first | assumption | (simp; done) | (simp; omega) | omega)
    obtain ⟨c31, f31, l31⟩ := bcells hb3 (w.heap.size + 1) (by first | assumption | (simp; done) | (simp; omega) | omega)
    replace hb3 := Aside0.mk hb3
    go_wp2_with fail
    all_goals
      go_ret2
      refine ⟨Res_eq ?_, below_step (below_step (below_step (below_alloc (below_alloc (Below.refl _ _) _) _) hb1.out) hb2.out) hb3.out⟩
      first | (simp only [*, cmpop, boolT, cond_true, cond_false]; first | done | rfl | decide) | (exfalso; have a7 := beq_eq_false_iff_ne.mp ‹(op == 7) = false›; have a8 := beq_eq_false_iff_ne.mp ‹(op == 8) = false›; have a9 := beq_eq_false_iff_ne.mp ‹(op == 9) = false›; have a10 := beq_eq_false_iff_ne.mp ‹(op == 10) = false›; have a11 := beq_eq_false_iff_ne.mp ‹(op == 11) = false›; have a12 := beq_eq_false_iff_ne.mp ‹(op == 12) = false›; omega)
set_option maxRecDepth 100000 in
set_option maxHeartbeats 4000000 in
theorem c_k0 (op k0 n0 : Int) (s0 : ByteArray) (k1 n1 : Int) (s1 : ByteArray) (w : World) (o7 : ¬ op < 7) (o12 : ¬ op > 12) (hr0 : rightB k0 n0 s0 = true) (hr1 : rightB k1 n1 s1 = true) (z0 : (k0 == 0) = false) (z1 : (k1 == 0) = false) (e : (k0 != k1) = true) (q0 : numB k0 = false) :
    Calls Tryd.prog 9 #[.int .u8 op, Vl k0 n0 s0, Vl k1 n1 s1] w fun e w' => e = Res 0 270 ∧ Below w.heap.size w w' := by
  have O := Aside0.mk (value_Order.calls k0 n0 s0 k1 n1 s1 _ · (order_f k0 n0 s0 k1 n1 s1))
  generalize orderR k0 n0 s0 k1 n1 s1 = c at *
  have N := Aside0.mk (value_Right.calls 1 k0 n0 s0 (rightB k0 n0 s0) · (right_f 0 k0 n0 s0))
  rw [hr0] at N
  clear hr0
  have M := Aside0.mk (value_Right.calls 1 k1 n1 s1 (rightB k1 n1 s1) · (right_f 0 k1 n1 s1))
  rw [hr1] at M
  clear hr1
  have A0 := Aside0.mk (value_number.calls k0 n0 s0 (numB k0) · (number_f k0 n0 s0))
  rw [q0] at A0
  clear q0
  go_enter Tryd.func9, Tryd.ntmps9
  go_wp2_with fail
  refine (N.out _).mono ?_
  rintro e w1 ⟨rfl, hb1⟩
  obtain ⟨c10, f10, l10⟩ := bcells hb1 (w.heap.size) (by first | assumption | (simp; done) | (simp; omega) | omega)
  obtain ⟨c11, f11, l11⟩ := bcells hb1 (w.heap.size + 1) (by first | assumption | (simp; done) | (simp; omega) | omega)
  replace hb1 := Aside0.mk hb1
  go_wp2_with fail
  refine (M.out _).mono ?_
  rintro e w2 ⟨rfl, hb2⟩
  obtain ⟨c20, f20, l20⟩ := bcells hb2 (w.heap.size) (by first | assumption | (simp; done) | (simp; omega) | omega)
  obtain ⟨c21, f21, l21⟩ := bcells hb2 (w.heap.size + 1) (by first | assumption | (simp; done) | (simp; omega) | omega)
  replace hb2 := Aside0.mk hb2
  go_wp2_with fail
  refine (O.out _).mono ?_
  rintro e w3 ⟨rfl, hb3⟩
  obtain ⟨c30, f30, l30⟩ := bcells hb3 (w.heap.size) (by first | assumption | (simp; done) | (simp; omega) | omega)
  obtain ⟨c31, f31, l31⟩ := bcells hb3 (w.heap.size + 1) (by first | assumption | (simp; done) | (simp; omega) | omega)
  replace hb3 := Aside0.mk hb3
  go_wp2_with fail
  refine (A0.out _).mono ?_
  rintro e w4 ⟨rfl, hb4⟩
  obtain ⟨c40, f40, l40⟩ := bcells hb4 (w.heap.size) (by first | assumption | (simp; done) | (simp; omega) | omega)
  obtain ⟨c41, f41, l41⟩ := bcells hb4 (w.heap.size + 1) (by first | assumption | (simp; done) | (simp; omega) | omega)
  replace hb4 := Aside0.mk hb4
  go_wp2_with fail
  go_ret2
  exact ⟨rfl, below_step (below_step (below_step (below_step (below_alloc (below_alloc (Below.refl _ _) _) _) hb1.out) hb2.out) hb3.out) hb4.out⟩
set_option maxRecDepth 100000 in
set_option maxHeartbeats 4000000 in
theorem c_k1 (op k0 n0 : Int) (s0 : ByteArray) (k1 n1 : Int) (s1 : ByteArray) (w : World) (o7 : ¬ op < 7) (o12 : ¬ op > 12) (hr0 : rightB k0 n0 s0 = true) (hr1 : rightB k1 n1 s1 = true) (z0 : (k0 == 0) = false) (z1 : (k1 == 0) = false) (e : (k0 != k1) = true) (q0 : numB k0 = true) (q1 : numB k1 = false) :
    Calls Tryd.prog 9 #[.int .u8 op, Vl k0 n0 s0, Vl k1 n1 s1] w fun e w' => e = Res 0 270 ∧ Below w.heap.size w w' := by
  have O := Aside0.mk (value_Order.calls k0 n0 s0 k1 n1 s1 _ · (order_f k0 n0 s0 k1 n1 s1))
  generalize orderR k0 n0 s0 k1 n1 s1 = c at *
  have N := Aside0.mk (value_Right.calls 1 k0 n0 s0 (rightB k0 n0 s0) · (right_f 0 k0 n0 s0))
  rw [hr0] at N
  clear hr0
  have M := Aside0.mk (value_Right.calls 1 k1 n1 s1 (rightB k1 n1 s1) · (right_f 0 k1 n1 s1))
  rw [hr1] at M
  clear hr1
  have A0 := Aside0.mk (value_number.calls k0 n0 s0 (numB k0) · (number_f k0 n0 s0))
  rw [q0] at A0
  clear q0
  have A1 := Aside0.mk (value_number.calls k1 n1 s1 (numB k1) · (number_f k1 n1 s1))
  rw [q1] at A1
  clear q1
  go_enter Tryd.func9, Tryd.ntmps9
  go_wp2_with fail
  refine (N.out _).mono ?_
  rintro e w1 ⟨rfl, hb1⟩
  obtain ⟨c10, f10, l10⟩ := bcells hb1 (w.heap.size) (by first | assumption | (simp; done) | (simp; omega) | omega)
  obtain ⟨c11, f11, l11⟩ := bcells hb1 (w.heap.size + 1) (by first | assumption | (simp; done) | (simp; omega) | omega)
  replace hb1 := Aside0.mk hb1
  go_wp2_with fail
  refine (M.out _).mono ?_
  rintro e w2 ⟨rfl, hb2⟩
  obtain ⟨c20, f20, l20⟩ := bcells hb2 (w.heap.size) (by first | assumption | (simp; done) | (simp; omega) | omega)
  obtain ⟨c21, f21, l21⟩ := bcells hb2 (w.heap.size + 1) (by first | assumption | (simp; done) | (simp; omega) | omega)
  replace hb2 := Aside0.mk hb2
  go_wp2_with fail
  refine (O.out _).mono ?_
  rintro e w3 ⟨rfl, hb3⟩
  obtain ⟨c30, f30, l30⟩ := bcells hb3 (w.heap.size) (by first | assumption | (simp; done) | (simp; omega) | omega)
  obtain ⟨c31, f31, l31⟩ := bcells hb3 (w.heap.size + 1) (by first | assumption | (simp; done) | (simp; omega) | omega)
  replace hb3 := Aside0.mk hb3
  go_wp2_with fail
  refine (A0.out _).mono ?_
  rintro e w4 ⟨rfl, hb4⟩
  obtain ⟨c40, f40, l40⟩ := bcells hb4 (w.heap.size) (by first | assumption | (simp; done) | (simp; omega) | omega)
  obtain ⟨c41, f41, l41⟩ := bcells hb4 (w.heap.size + 1) (by first | assumption | (simp; done) | (simp; omega) | omega)
  replace hb4 := Aside0.mk hb4
  go_wp2_with fail
  refine (A1.out _).mono ?_
  rintro e w5 ⟨rfl, hb5⟩
  obtain ⟨c50, f50, l50⟩ := bcells hb5 (w.heap.size) (by first | assumption | (simp; done) | (simp; omega) | omega)
  obtain ⟨c51, f51, l51⟩ := bcells hb5 (w.heap.size + 1) (by first | assumption | (simp; done) | (simp; omega) | omega)
  replace hb5 := Aside0.mk hb5
  go_wp2_with fail
  go_ret2
  exact ⟨rfl, below_step (below_step (below_step (below_step (below_step (below_alloc (below_alloc (Below.refl _ _) _) _) hb1.out) hb2.out) hb3.out) hb4.out) hb5.out⟩
set_option maxRecDepth 100000 in
set_option maxHeartbeats 4000000 in
theorem c_num (op k0 n0 : Int) (s0 : ByteArray) (k1 n1 : Int) (s1 : ByteArray) (x0 x1 y0 y1 v0 v1 r0 r1 t : Int) (w : World) (o7 : ¬ op < 7) (o12 : ¬ op > 12) (hr0 : rightB k0 n0 s0 = true) (hr1 : rightB k1 n1 s1 = true) (z0 : (k0 == 0) = false) (z1 : (k1 == 0) = false) (e : (k0 != k1) = true) (q0 : numB k0 = true) (q1 : numB k1 = true)
    (hx : value_fixed.f k0 n0 s0 = some (x0, x1)) (hy : value_fixed.f k1 n1 s1 = some (y0, y1)) (ht : vw_minus.f y0 y1 = some (v0, v1)) (hp : vw_plus.f x0 x1 v0 v1 = some (r0, r1)) (hk : cmp_Compare_int64.f r0 0 = some t) (tr : t = -1 ∨ t = 0 ∨ t = 1) :
    Calls Tryd.prog 9 #[.int .u8 op, Vl k0 n0 s0, Vl k1 n1 s1] w fun e w' => e = Res (boolT (cmpop op (if t = 0 then (if r1 = 0 then t else 1) else t))) 0 ∧ Below w.heap.size w w' := by
  have F0 := Aside0.mk (value_fixed.calls k0 n0 s0 x0 x1 · hx)
  have F1 := Aside0.mk (value_fixed.calls k1 n1 s1 y0 y1 · hy)
  have Mi := Aside0.mk (vw_minus.calls y0 y1 v0 v1 · ht)
  have P := Aside0.mk (vw_plus.calls x0 x1 v0 v1 r0 r1 · hp)
  have K := Aside0.mk (cmp_Compare_int64.calls r0 0 t · hk)
  clear hx hy ht hp hk
  have O := Aside0.mk (value_Order.calls k0 n0 s0 k1 n1 s1 _ · (order_f k0 n0 s0 k1 n1 s1))
  generalize orderR k0 n0 s0 k1 n1 s1 = c at *
  have N := Aside0.mk (value_Right.calls 1 k0 n0 s0 (rightB k0 n0 s0) · (right_f 0 k0 n0 s0))
  rw [hr0] at N
  clear hr0
  have M := Aside0.mk (value_Right.calls 1 k1 n1 s1 (rightB k1 n1 s1) · (right_f 0 k1 n1 s1))
  rw [hr1] at M
  clear hr1
  have A0 := Aside0.mk (value_number.calls k0 n0 s0 (numB k0) · (number_f k0 n0 s0))
  rw [q0] at A0
  clear q0
  have A1 := Aside0.mk (value_number.calls k1 n1 s1 (numB k1) · (number_f k1 n1 s1))
  rw [q1] at A1
  clear q1
  go_enter Tryd.func9, Tryd.ntmps9
  go_wp2_with fail
  refine (N.out _).mono ?_
  rintro e w1 ⟨rfl, hb1⟩
  obtain ⟨c10, f10, l10⟩ := bcells hb1 (w.heap.size) (by first | assumption | (simp; done) | (simp; omega) | omega)
  obtain ⟨c11, f11, l11⟩ := bcells hb1 (w.heap.size + 1) (by first | assumption | (simp; done) | (simp; omega) | omega)
  replace hb1 := Aside0.mk hb1
  go_wp2_with fail
  refine (M.out _).mono ?_
  rintro e w2 ⟨rfl, hb2⟩
  obtain ⟨c20, f20, l20⟩ := bcells hb2 (w.heap.size) (by first | assumption | (simp; done) | (simp; omega) | omega)
  obtain ⟨c21, f21, l21⟩ := bcells hb2 (w.heap.size + 1) (by first | assumption | (simp; done) | (simp; omega) | omega)
  replace hb2 := Aside0.mk hb2
  go_wp2_with fail
  refine (O.out _).mono ?_
  rintro e w3 ⟨rfl, hb3⟩
  obtain ⟨c30, f30, l30⟩ := bcells hb3 (w.heap.size) (by first | assumption | (simp; done) | (simp; omega) | omega)
  obtain ⟨c31, f31, l31⟩ := bcells hb3 (w.heap.size + 1) (by first | assumption | (simp; done) | (simp; omega) | omega)
  replace hb3 := Aside0.mk hb3
  go_wp2_with fail
  refine (A0.out _).mono ?_
  rintro e w4 ⟨rfl, hb4⟩
  obtain ⟨c40, f40, l40⟩ := bcells hb4 (w.heap.size) (by first | assumption | (simp; done) | (simp; omega) | omega)
  obtain ⟨c41, f41, l41⟩ := bcells hb4 (w.heap.size + 1) (by first | assumption | (simp; done) | (simp; omega) | omega)
  replace hb4 := Aside0.mk hb4
  go_wp2_with fail
  refine (A1.out _).mono ?_
  rintro e w5 ⟨rfl, hb5⟩
  obtain ⟨c50, f50, l50⟩ := bcells hb5 (w.heap.size) (by first | assumption | (simp; done) | (simp; omega) | omega)
  obtain ⟨c51, f51, l51⟩ := bcells hb5 (w.heap.size + 1) (by first | assumption | (simp; done) | (simp; omega) | omega)
  replace hb5 := Aside0.mk hb5
  go_wp2_with fail
  have rules : ∀ W, Below w5.heap.size w5 W → (W.cell? ⟨w.heap.size, 0, none⟩ = some (.int .u8 k0) ∧ W.cell? ⟨w.heap.size, 1, none⟩ = some (.int .i64 n0) ∧ W.cell? ⟨w.heap.size, 2, none⟩ = some (.string s0)) ∧ W.cell? ⟨w.heap.size + 1, 0, none⟩ = some (.int .u8 k1) ∧ W.cell? ⟨w.heap.size + 1, 1, none⟩ = some (.int .i64 n1) ∧ W.cell? ⟨w.heap.size + 1, 2, none⟩ = some (.string s1) :=
    fun W h => ⟨⟨pw_cell_below h (by go_simp), pw_cell_below h (by go_simp), pw_cell_below h (by go_simp)⟩, pw_cell_below h (by go_simp), pw_cell_below h (by go_simp), pw_cell_below h (by go_simp)⟩
  have ra0 := fun W h => (rules W h).1.1
  have ra1 := fun W h => (rules W h).1.2.1
  have ra2 := fun W h => (rules W h).1.2.2
  have rb0 := fun W h => (rules W h).2.1
  have rb1 := fun W h => (rules W h).2.2.1
  have rb2 := fun W h => (rules W h).2.2.2
  clear rules c10 c11 c20 c21 c30 c31 c40 c41 c50 c51 f10 f11 f20 f21 f30 f31 f40 f41 f50 f51 l10 l11 l20 l21 l30 l31 l40 l41 l50 l51
  have St0 := Aside0.mk (show Below w5.heap.size w5 w5.drew from below_drew1 (Below.refl _ _))
  go_cut [9] (fun s9 wx => ∃ g : Nat, s9 = .pointer (some ⟨g, 0, none⟩) ∧ wx.cell? ⟨g, 0, none⟩ = some (.int .i64 r0) ∧ wx.cell? ⟨g, 1, none⟩ = some (.int .u64 r1) ∧ Below w5.heap.size w5 wx)
  case first =>
    go_region_held3 (fun W => Below w5.heap.size w5 W)
      (first | (with_reducible exact St0.out) | (with_reducible exact below_drew1 (below_alloc (Below.refl _ _) _)) | (with_reducible exact below_step (by assumption) hb) | (with_reducible exact below_alloc (by assumption) _) | (with_reducible exact below_alloc hB _) | (exact set_ok (set_ok (by assumption) (by first | exact Nat.le_refl _ | exact below_size (by assumption)) _) (by first | exact Nat.le_refl _ | exact below_size (by assumption)) _))
      (first | (((with_reducible refine (F0.out _).mono ?_); rintro e w' ⟨rfl, hb⟩; have hB := (below_step (by assumption) hb : Below w5.heap.size w5 w'); have cR := (bcell hb).1; have fR := (bcell hb).2; first | (have lR := lt_alloc hb) | (have lR := lt_allocd hb) | (have lR := lt_keep hb (by assumption)) | skip)) | (((with_reducible refine (F1.out _).mono ?_); rintro e w' ⟨rfl, hb⟩; have hB := (below_step (by assumption) hb : Below w5.heap.size w5 w'); have cR := (bcell hb).1; have fR := (bcell hb).2; first | (have lR := lt_alloc hb) | (have lR := lt_allocd hb) | (have lR := lt_keep hb (by assumption)) | skip)) | (((with_reducible refine (Mi.out _).mono ?_); rintro e w' ⟨rfl, hb⟩; have hB := (below_step (by assumption) hb : Below w5.heap.size w5 w'); have cR := (bcell hb).1; have fR := (bcell hb).2; first | (have lR := lt_alloc hb) | (have lR := lt_allocd hb) | (have lR := lt_keep hb (by assumption)) | skip)) | (((with_reducible refine (P.out _).mono ?_); rintro e w' ⟨rfl, hb⟩; have hB := (below_step (by assumption) hb : Below w5.heap.size w5 w'); have cR := (bcell hb).1; have fR := (bcell hb).2; first | (have lR := lt_alloc hb) | (have lR := lt_allocd hb) | (have lR := lt_keep hb (by assumption)) | skip)))
    all_goals (go_wp2_with fail; go_meet; exact ⟨_, rfl, by go_simp, by go_simp, by assumption⟩)
  case rest =>
    obtain ⟨g, rfl, g0, g1, hb6⟩ := hcut
    replace hb6 := Aside0.mk hb6
    have bz : Below w.heap.size w wc := below_step (below_step (below_step (below_step (below_step (below_step (below_alloc (below_alloc (Below.refl _ _) _) _) hb1.out) hb2.out) hb3.out) hb4.out) hb5.out) hb6.out
    replace bz := Aside0.mk bz
    go_wp2_with fail
    refine (K.out _).mono ?_
    rintro e w' ⟨rfl, ⟨nn, rfl⟩⟩
    rcases tr with rfl | rfl | rfl
    case inl =>
      go_wp2
      all_goals
        go_ret2
        refine ⟨Res_eq ?_, (pw_below_drewN bz.out _)⟩
        first | (simp only [*, cmpop, boolT, cond_true, cond_false]; first | done | rfl | decide) | (exfalso; have a7 := beq_eq_false_iff_ne.mp ‹(op == 7) = false›; have a8 := beq_eq_false_iff_ne.mp ‹(op == 8) = false›; have a9 := beq_eq_false_iff_ne.mp ‹(op == 9) = false›; have a10 := beq_eq_false_iff_ne.mp ‹(op == 10) = false›; have a11 := beq_eq_false_iff_ne.mp ‹(op == 11) = false›; have a12 := beq_eq_false_iff_ne.mp ‹(op == 12) = false›; omega)
    case inr.inr =>
      go_wp2
      all_goals
        go_ret2
        refine ⟨Res_eq ?_, (pw_below_drewN bz.out _)⟩
        first | (simp only [*, cmpop, boolT, cond_true, cond_false]; first | done | rfl | decide) | (exfalso; have a7 := beq_eq_false_iff_ne.mp ‹(op == 7) = false›; have a8 := beq_eq_false_iff_ne.mp ‹(op == 8) = false›; have a9 := beq_eq_false_iff_ne.mp ‹(op == 9) = false›; have a10 := beq_eq_false_iff_ne.mp ‹(op == 10) = false›; have a11 := beq_eq_false_iff_ne.mp ‹(op == 11) = false›; have a12 := beq_eq_false_iff_ne.mp ‹(op == 12) = false›; omega)
    case inr.inl =>
      by_cases hz : r1 = 0
      · subst hz
        go_wp2
        all_goals
          go_ret2
          refine ⟨Res_eq ?_, (pw_below_drewN bz.out _)⟩
          first | (simp only [*, cmpop, boolT, cond_true, cond_false]; first | done | rfl | decide) | (exfalso; have a7 := beq_eq_false_iff_ne.mp ‹(op == 7) = false›; have a8 := beq_eq_false_iff_ne.mp ‹(op == 8) = false›; have a9 := beq_eq_false_iff_ne.mp ‹(op == 9) = false›; have a10 := beq_eq_false_iff_ne.mp ‹(op == 10) = false›; have a11 := beq_eq_false_iff_ne.mp ‹(op == 11) = false›; have a12 := beq_eq_false_iff_ne.mp ‹(op == 12) = false›; omega)
      · have hz1 : (r1 == 0) = false := beq_false_of_ne hz
        have hz2 : (r1 != 0) = true := by simpa [bne] using hz
        go_wp2
        all_goals
          go_ret2
          refine ⟨Res_eq ?_, (pw_below_drewN bz.out _)⟩
          first | (simp only [*, cmpop, boolT, cond_true, cond_false]; first | done | rfl | decide) | (exfalso; have a7 := beq_eq_false_iff_ne.mp ‹(op == 7) = false›; have a8 := beq_eq_false_iff_ne.mp ‹(op == 8) = false›; have a9 := beq_eq_false_iff_ne.mp ‹(op == 9) = false›; have a10 := beq_eq_false_iff_ne.mp ‹(op == 10) = false›; have a11 := beq_eq_false_iff_ne.mp ‹(op == 11) = false›; have a12 := beq_eq_false_iff_ne.mp ‹(op == 12) = false›; omega)
end Go.Proofs.YtbodlnoipkommaaDoor.Xc
namespace Go.Proofs.YtbodlnoipkommaaDoor.Xd
open Go.RowKit Go.Proofs.YtbodlnoipkommaaDoor.Q Go.Proofs.YtbodlnoipkommaaDoor.We Go.Proofs.YtbodlnoipkommaaDoor.Wh Go.Proofs.YtbodlnoipkommaaDoor.Wp Go.Proofs.YtbodlnoipkommaaDoor.Pa Go.Proofs.YtbodlnoipkommaaDoor.Pb Go.Proofs.YtbodlnoipkommaaDoor.Xc Go.Proofs.YtbodlnoipkommaaDoorW.PrintWords Go.Proofs.YtbodlnoipkommaaDoorW.PrintLast Go.Proofs.YtbodlnoipkommaaDoorW.PrintMore
def value_Compare.f (op k0 n0 : Int) (s0 : ByteArray) (k1 n1 : Int) (s1 : ByteArray) : Option (Int × Int) := if I64 n0 ∧ I64 n1 then some (compareR op k0 n0 s0 k1 n1 s1) else none
theorem value_Compare.calls (op k0 n0 : Int) (s0 : ByteArray) (k1 n1 : Int) (s1 : ByteArray) (r1 r2 : Int) (w : World) (h : value_Compare.f op k0 n0 s0 k1 n1 s1 = some (r1, r2)) :
    Calls Tryd.prog 9 #[.int .u8 op, .agg #[.int .u8 k0, .int .i64 n0, .string s0], .agg #[.int .u8 k1, .int .i64 n1, .string s1]] w fun e w' => e = .returned (.tuple #[.int .u8 r1, .int .i64 r2]) ∧ Below w.heap.size w w' := by
  unfold value_Compare.f at h
  by_cases hc : I64 n0 ∧ I64 n1
  case neg => rw [if_neg hc] at h; cases h
  rw [if_pos hc] at h
  obtain ⟨h0, h1⟩ := hc
  injection h with h
  unfold compareR at h
  by_cases o7 : op < 7
  · rw [if_pos (Or.inl o7)] at h
    injection h with e1 e2; subst e1 e2
    exact c_lo op k0 n0 s0 k1 n1 s1 w o7
  by_cases o12 : op > 12
  · rw [if_pos (Or.inr (Or.inl o12))] at h
    injection h with e1 e2; subst e1 e2
    exact c_hi op k0 n0 s0 k1 n1 s1 w o7 o12
  cases hr0 : rightB k0 n0 s0
  · rw [if_pos (Or.inr (Or.inr (Or.inl hr0)))] at h
    injection h with e1 e2; subst e1 e2
    exact c_r0 op k0 n0 s0 k1 n1 s1 w o7 o12 hr0
  cases hr1 : rightB k1 n1 s1
  · rw [if_pos (Or.inr (Or.inr (Or.inr hr1)))] at h
    injection h with e1 e2; subst e1 e2
    exact c_r1 op k0 n0 s0 k1 n1 s1 w o7 o12 hr0 hr1
  simp only [o7, o12, hr0, hr1, Bool.true_eq_false, or_self, if_false] at h
  by_cases z0 : k0 = 0
  · rw [if_pos (Or.inl z0)] at h
    injection h with e1 e2; subst e1 e2
    exact c_null0 op k0 n0 s0 k1 n1 s1 w o7 o12 hr0 hr1 (by simpa using z0)
  by_cases z1 : k1 = 0
  · rw [if_pos (Or.inr z1)] at h
    injection h with e1 e2; subst e1 e2
    exact c_null1 op k0 n0 s0 k1 n1 s1 w o7 o12 hr0 hr1 (beq_false_of_ne z0) (by simpa using z1)
  simp only [z0, z1, or_self, if_false] at h
  by_cases e : k0 = k1
  · rw [if_pos e] at h
    injection h with e1 e2; subst e1 e2
    exact c_same op k0 n0 s0 k1 n1 s1 w o7 o12 hr0 hr1 (beq_false_of_ne z0) (beq_false_of_ne z1) (by simp [e])
  rw [if_neg e] at h
  have e' : (k0 != k1) = true := by simpa [bne] using e
  cases q0 : numB k0
  · rw [if_neg (by rw [q0]; simp)] at h
    injection h with e1 e2; subst e1 e2
    exact c_k0 op k0 n0 s0 k1 n1 s1 w o7 o12 hr0 hr1 (beq_false_of_ne z0) (beq_false_of_ne z1) e' q0
  cases q1 : numB k1
  · rw [if_neg (by rw [q1]; simp)] at h
    injection h with e1 e2; subst e1 e2
    exact c_k1 op k0 n0 s0 k1 n1 s1 w o7 o12 hr0 hr1 (beq_false_of_ne z0) (beq_false_of_ne z1) e' q0 q1
  rw [if_pos ⟨q0, q1⟩] at h
  injection h with e1 e2; subst e1 e2
  have hs := ((fix_range k0 n0 h0).2.2 k1 n1 h1)
  have e3 : fixV k0 n0 + -fixV k1 n1 = fixV k0 n0 - fixV k1 n1 := by omega
  have := c_num op k0 n0 s0 k1 n1 s1 _ _ _ _ _ _ _ _ _ w o7 o12 hr0 hr1 (beq_false_of_ne z0) (beq_false_of_ne z1) e' q0 q1 (fixed_fV k0 n0 s0 h0) (fixed_fV k1 n1 s1 h1) (minus_f _ (fix_range k1 n1 h1).1 (fix_range k1 n1 h1).2.1) (plus_f _ _ (fix_range k0 n0 h0).1 (fix_range k1 n1 h1).2.1 hs.2.2) (cmp64_f _ _) (cmpI_range _ _)
  rw [e3, sgn_f _ hs.2.1] at this
  exact this
end Go.Proofs.YtbodlnoipkommaaDoor.Xd
namespace Go.Proofs.YtbodlnoipkommaaDoor.Q
open Go.RowKit Go.Proofs.YtbodlnoipkommaaDoorW.PrintWords Go.Proofs.YtbodlnoipkommaaDoorW.PrintLast Go.Proofs.YtbodlnoipkommaaDoorW.PrintMore
attribute [local go_sem] max2_int min2_int max_two min_two max_three min_three max_four min_four
set_option linter.unusedVariables false
set_option linter.unusedSimpArgs false
def lw17_num.f (a0 : Int) : Option (Int × Int × ByteArray) := some (2, a0, (⟨#[]⟩ : ByteArray))
set_option maxHeartbeats 8000000 in
set_option maxRecDepth 100000 in
theorem lw17_num.calls (a0 : Int) (r1 : Int) (r2 : Int) (r3 : ByteArray) (w : World) (h : lw17_num.f a0 = some (r1, r2, r3)) :
  Calls Tryd.prog 49 #[.int .i64 a0] w fun e w' => e = .returned (.agg #[.int .u8 r1, .int .i64 r2, .string r3]) ∧ Below w.heap.size w w' := by
 have hu25 := Tryd.underlying25
 have HB := Aside0.mk (Below.refl w.heap.size w)
 have H : (some (2, a0, (⟨#[]⟩ : ByteArray))) = some (r1, r2, r3) := h
 clear h
 simp only [Option.some.injEq, Prod.mk.injEq] at H
 obtain ⟨rfl, rfl, rfl⟩ := H
 go_enter Tryd.func49, Tryd.ntmps49
 go_wp2_with (first | ((with_reducible refine gate_dst (N := 2) rfl ?_); refine box_event ?hg (N := 2) ?hd (cs := #[.int .u8 0, .int .i64 0, .string (⟨#[]⟩ : ByteArray)]) (t := 25) ?hr ?_; (case hd => rfl); (case hg => rfl); (case hr => first | (go_simp; done) | (go_simp; rfl)); intro gb200 hg w2 hbox hb; have n0_ := Aside0.mk (below_step (bw HB.out) hb); have n1_ := Aside0.mk (hbox); have n2_ := Aside0.mk ((by rw [hg]; exact (below_size (bw HB.out)) : w.heap.size ≤ gb200)); have n3_ := Aside0.mk ((by rw [hg]; exact (below_size (bw HB.out)) : w.heap.size ≤ gb200)); clear HB; have HB := n0_; have BK200 := n1_; have GW200 := n2_; have GE200 := n3_; clear n0_ n1_ n2_ n3_; clear hb hbox hg; have hcz3_0 : w2.cell? ⟨gb200, 0, none⟩ = some (.int .u8 0) := (blk_cell BK200.out 0).trans rfl; have hcz3_1 : w2.cell? ⟨gb200, 1, none⟩ = some (.int .i64 0) := (blk_cell BK200.out 1).trans rfl; have hcz3_2 : w2.cell? ⟨gb200, 2, none⟩ = some (.string (⟨#[]⟩ : ByteArray)) := (blk_cell BK200.out 2).trans rfl; have hfz3_0 := blk_frozen BK200.out 0; have hfz3_1 := blk_frozen BK200.out 1; have hfz3_2 := blk_frozen BK200.out 2))
 refine bodyPost_ret (results_cell_row rfl _ _ gb200 25 #[.int .u8 2, .int .i64 a0, .string (⟨#[]⟩ : ByteArray)] (0, 0) _ rfl (by (with_reducible repeat first | apply blk_drewN | apply blk_drew | apply blk_alloc); refine blk_put (cs := #[.int .u8 2, .int .i64 a0, .string (⟨#[]⟩ : ByteArray)]) ?_ 2 _ rfl; (with_reducible repeat first | apply blk_drewN | apply blk_drew | apply blk_alloc); refine blk_put (cs := #[.int .u8 2, .int .i64 0, .string (⟨#[]⟩ : ByteArray)]) ?_ 1 _ rfl; (with_reducible repeat first | apply blk_drewN | apply blk_drew | apply blk_alloc); refine blk_put (cs := #[.int .u8 0, .int .i64 0, .string (⟨#[]⟩ : ByteArray)]) ?_ 0 _ rfl; (with_reducible repeat first | apply blk_drewN | apply blk_drew | apply blk_alloc); exact BK200.out) Tryd.underlying25 rfl (by kernel_rfl)) rfl ?_
 exact ⟨by first | rfl | (simp [errW_none, errW_some] <;> rfl) | (simp [*, errW_none, errW_some] <;> rfl), by repeat (first | (with_reducible first | exact HB.out | apply below_alloc | apply pw_below_drewN | apply below_drew1 | refine below_set ?_ GE200.out) | exact HB.out)⟩
end Go.Proofs.YtbodlnoipkommaaDoor.Q
namespace Go.Proofs.YtbodlnoipkommaaDoor.Q
open Go.RowKit Go.Proofs.YtbodlnoipkommaaDoorW.PrintWords Go.Proofs.YtbodlnoipkommaaDoorW.PrintLast Go.Proofs.YtbodlnoipkommaaDoorW.PrintMore
attribute [local go_sem] max2_int min2_int max_two min_two max_three min_three max_four min_four
set_option linter.unusedVariables false
set_option linter.unusedSimpArgs false
def lw17_dec.f (a0 : Int) : Option (Int × Int × ByteArray) := some (3, a0, (⟨#[]⟩ : ByteArray))
set_option maxHeartbeats 8000000 in
set_option maxRecDepth 100000 in
theorem lw17_dec.calls (a0 : Int) (r1 : Int) (r2 : Int) (r3 : ByteArray) (w : World) (h : lw17_dec.f a0 = some (r1, r2, r3)) :
  Calls Tryd.prog 50 #[.int .i64 a0] w fun e w' => e = .returned (.agg #[.int .u8 r1, .int .i64 r2, .string r3]) ∧ Below w.heap.size w w' := by
 have hu25 := Tryd.underlying25
 have HB := Aside0.mk (Below.refl w.heap.size w)
 have H : (some (3, a0, (⟨#[]⟩ : ByteArray))) = some (r1, r2, r3) := h
 clear h
 simp only [Option.some.injEq, Prod.mk.injEq] at H
 obtain ⟨rfl, rfl, rfl⟩ := H
 go_enter Tryd.func50, Tryd.ntmps50
 go_wp2_with (first | ((with_reducible refine gate_dst (N := 2) rfl ?_); refine box_event ?hg (N := 2) ?hd (cs := #[.int .u8 0, .int .i64 0, .string (⟨#[]⟩ : ByteArray)]) (t := 25) ?hr ?_; (case hd => rfl); (case hg => rfl); (case hr => first | (go_simp; done) | (go_simp; rfl)); intro gb201 hg w2 hbox hb; have n0_ := Aside0.mk (below_step (bw HB.out) hb); have n1_ := Aside0.mk (hbox); have n2_ := Aside0.mk ((by rw [hg]; exact (below_size (bw HB.out)) : w.heap.size ≤ gb201)); have n3_ := Aside0.mk ((by rw [hg]; exact (below_size (bw HB.out)) : w.heap.size ≤ gb201)); clear HB; have HB := n0_; have BK201 := n1_; have GW201 := n2_; have GE201 := n3_; clear n0_ n1_ n2_ n3_; clear hb hbox hg; have hcz3_0 : w2.cell? ⟨gb201, 0, none⟩ = some (.int .u8 0) := (blk_cell BK201.out 0).trans rfl; have hcz3_1 : w2.cell? ⟨gb201, 1, none⟩ = some (.int .i64 0) := (blk_cell BK201.out 1).trans rfl; have hcz3_2 : w2.cell? ⟨gb201, 2, none⟩ = some (.string (⟨#[]⟩ : ByteArray)) := (blk_cell BK201.out 2).trans rfl; have hfz3_0 := blk_frozen BK201.out 0; have hfz3_1 := blk_frozen BK201.out 1; have hfz3_2 := blk_frozen BK201.out 2))
 refine bodyPost_ret (results_cell_row rfl _ _ gb201 25 #[.int .u8 3, .int .i64 a0, .string (⟨#[]⟩ : ByteArray)] (0, 0) _ rfl (by (with_reducible repeat first | apply blk_drewN | apply blk_drew | apply blk_alloc); refine blk_put (cs := #[.int .u8 3, .int .i64 a0, .string (⟨#[]⟩ : ByteArray)]) ?_ 2 _ rfl; (with_reducible repeat first | apply blk_drewN | apply blk_drew | apply blk_alloc); refine blk_put (cs := #[.int .u8 3, .int .i64 0, .string (⟨#[]⟩ : ByteArray)]) ?_ 1 _ rfl; (with_reducible repeat first | apply blk_drewN | apply blk_drew | apply blk_alloc); refine blk_put (cs := #[.int .u8 0, .int .i64 0, .string (⟨#[]⟩ : ByteArray)]) ?_ 0 _ rfl; (with_reducible repeat first | apply blk_drewN | apply blk_drew | apply blk_alloc); exact BK201.out) Tryd.underlying25 rfl (by kernel_rfl)) rfl ?_
 exact ⟨by first | rfl | (simp [errW_none, errW_some] <;> rfl) | (simp [*, errW_none, errW_some] <;> rfl), by repeat (first | (with_reducible first | exact HB.out | apply below_alloc | apply pw_below_drewN | apply below_drew1 | refine below_set ?_ GE201.out) | exact HB.out)⟩
end Go.Proofs.YtbodlnoipkommaaDoor.Q
namespace Go.Proofs.YtbodlnoipkommaaDoor.Pe
open Go.RowKit Go.Proofs.YtbodlnoipkommaaDoor.Q Go.Proofs.YtbodlnoipkommaaDoor.We Go.Proofs.YtbodlnoipkommaaDoor.Wf Go.Proofs.YtbodlnoipkommaaDoor.Wg Go.Proofs.YtbodlnoipkommaaDoor.Wh Go.Proofs.YtbodlnoipkommaaDoor.Wj Go.Proofs.YtbodlnoipkommaaDoor.Wk Go.Proofs.YtbodlnoipkommaaDoor.Wl Go.Proofs.YtbodlnoipkommaaDoor.Wo Go.Proofs.YtbodlnoipkommaaDoor.Wp Go.Proofs.YtbodlnoipkommaaDoor.Wq Go.Proofs.YtbodlnoipkommaaDoor.Ws Go.Proofs.YtbodlnoipkommaaDoor.Wt Go.Proofs.YtbodlnoipkommaaDoor.Pa Go.Proofs.YtbodlnoipkommaaDoor.Pb Go.Proofs.YtbodlnoipkommaaDoor.Pc Go.Proofs.YtbodlnoipkommaaDoor.Xd Go.Proofs.YtbodlnoipkommaaDoorW.PrintWords Go.Proofs.YtbodlnoipkommaaDoorW.PrintLast Go.Proofs.YtbodlnoipkommaaDoorW.PrintMore
theorem toList_empty : (⟨#[]⟩ : ByteArray).toList = [] := by
  rw [ByteArray.toList_eq]
theorem right_num (n : Int) : rightB 2 n ⟨#[]⟩ = true ∧ rightB 3 n ⟨#[]⟩ = true := by
  unfold rightB
  rw [toList_empty]
  exact ⟨rfl, rfl⟩
theorem asked_num (k0 n0 k1 n1 : Int) (h0 : k0 = 2 ∨ k0 = 3) (h1 : k1 = 2 ∨ k1 = 3) : askedR k0 n0 ⟨#[]⟩ k1 n1 ⟨#[]⟩ = (false, 0) := by
  unfold askedR
  rcases h0 with rfl | rfl <;> rcases h1 with rfl | rfl <;> simp only [right_num] <;> rfl
theorem print_half : value_Print.f 3 (-5000) ⟨#[]⟩ = some ⟨#[45, 48, 46, 53, 48, 48, 48]⟩ := by
  unfold value_Print.f
  rw [if_pos (by decide)]
  have hr : rightB 3 (-5000) ⟨#[]⟩ = true := (right_num _).2
  unfold printR
  rw [hr]
  simp only [show ¬ ((3 : Int) = 0) by decide, show ¬ ((3 : Int) = 1) by decide, show ¬ ((3 : Int) = 2) by decide, if_false, if_true, Bool.true_eq_false]
  have e : Lib.decDigits 15000 = [49, 53, 48, 48, 48] := by
    rw [Lib.decDigits, dif_neg (by decide), Lib.decDigits, dif_neg (by decide), Lib.decDigits, dif_neg (by decide), Lib.decDigits, dif_neg (by decide), Lib.decDigits_one (by decide)]
    rfl
  have e0 : Lib.decDigits 0 = [48] := Lib.decDigits_one (by decide)
  unfold decimalS fourS
  rw [if_pos (by decide)]
  show some (dash ++ (dec 0 ++ dot ++ (dec 15000).extract 1 (dec 15000).size)) = _
  unfold dec
  rw [e, e0]
  rfl
theorem cmp_ex : value_Compare.f 9 2 1 ⟨#[]⟩ 3 15000 ⟨#[]⟩ = some (1, 0) := by
  unfold value_Compare.f compareR; rw [if_pos (by decide)]; rw [(right_num 1).1, (right_num 15000).2]; decide
theorem add_ex : value_Add.f 2 9223372036854775807 ⟨#[]⟩ 2 1 ⟨#[]⟩ = some (0, 0, ⟨#[]⟩, 271) := by
  rw [add_f 2 9223372036854775807 ⟨#[]⟩ 2 1 ⟨#[]⟩ (by decide) (by decide)]
  unfold addR; rw [asked_num _ _ _ _ (by decide) (by decide)]; rfl
theorem mul_ex1 : value_Mul.f 3 3 1 ⟨#[]⟩ 3 5000 ⟨#[]⟩ = some (3, 0, ⟨#[]⟩, 0) := by
  rw [mul_f 0 3 1 ⟨#[]⟩ 3 5000 ⟨#[]⟩ (by decide) (by decide)]
  unfold mulR; rw [asked_num _ _ _ _ (by decide) (by decide)]; rfl
theorem mul_ex2 : value_Mul.f 3 3 3 ⟨#[]⟩ 3 5000 ⟨#[]⟩ = some (3, 2, ⟨#[]⟩, 0) := by
  rw [mul_f 0 3 3 ⟨#[]⟩ 3 5000 ⟨#[]⟩ (by decide) (by decide)]
  unfold mulR; rw [asked_num _ _ _ _ (by decide) (by decide)]; rfl
theorem right_ex : value_Right.f 1 2 7 ⟨#[]⟩ = some true := by rw [right_f, (right_num 7).1]
end Go.Proofs.YtbodlnoipkommaaDoor.Pe
namespace Go.Proofs.YtbodlnoipkommaaDoor.Xa
open Go.RowKit Go.Proofs.YtbodlnoipkommaaDoor.Q Go.Proofs.YtbodlnoipkommaaDoor.Wf Go.Proofs.YtbodlnoipkommaaDoor.Wg Go.Proofs.YtbodlnoipkommaaDoor.Wh Go.Proofs.YtbodlnoipkommaaDoor.Wi Go.Proofs.YtbodlnoipkommaaDoor.Wm Go.Proofs.YtbodlnoipkommaaDoor.Wn Go.Proofs.YtbodlnoipkommaaDoor.Wo Go.Proofs.YtbodlnoipkommaaDoor.Wp Go.Proofs.YtbodlnoipkommaaDoor.Wt Go.Proofs.YtbodlnoipkommaaDoor.Xd Go.Proofs.YtbodlnoipkommaaDoor.Pb Go.Proofs.YtbodlnoipkommaaDoor.Pe Go.Proofs.YtbodlnoipkommaaDoorW.PrintWords Go.Proofs.YtbodlnoipkommaaDoorW.PrintLast Go.Proofs.YtbodlnoipkommaaDoorW.PrintMore
abbrev vv (k n : Int) : Value := .agg #[.int .u8 k, .int .i64 n, .string ⟨#[]⟩]
theorem num_c (n : Int) (w : World) : Calls Tryd.prog 49 #[.int .i64 n] w fun e w' => e = .returned (vv 2 n) ∧ Below w.heap.size w w' := lw17_num.calls n _ _ _ w rfl
theorem dec_c (n : Int) (w : World) : Calls Tryd.prog 50 #[.int .i64 n] w fun e w' => e = .returned (vv 3 n) ∧ Below w.heap.size w w' := lw17_dec.calls n _ _ _ w rfl
set_option maxRecDepth 100000 in
set_option maxHeartbeats 4000000 in
theorem awake_calls (w : World) (hg : VOK w) : Calls Tryd.prog 15 #[] w fun e w' => e = .returned (.bool true) ∧ Below w.heap.size w w' := by
  have C := Aside0.mk (fun W => value_Compare.calls 9 2 1 ⟨#[]⟩ 3 15000 ⟨#[]⟩ _ _ W cmp_ex)
  have A := Aside0.mk (fun W => value_Add.calls 2 9223372036854775807 ⟨#[]⟩ 2 1 ⟨#[]⟩ _ _ _ _ W add_ex)
  have M1 := Aside0.mk (fun W => value_Mul.calls 3 3 1 ⟨#[]⟩ 3 5000 ⟨#[]⟩ _ _ _ _ W mul_ex1)
  have M2 := Aside0.mk (fun W => value_Mul.calls 3 3 3 ⟨#[]⟩ 3 5000 ⟨#[]⟩ _ _ _ _ W mul_ex2)
  have Pr := Aside0.mk (fun W => value_Print.calls 3 (-5000) ⟨#[]⟩ _ W print_half)
  have R := Aside0.mk (fun W => value_Right.calls 1 2 7 ⟨#[]⟩ true W right_ex)
  have An := Aside0.mk (fun W => value_And.calls 2 0 0 W rfl)
  have G := Aside0.mk hg
  have q1 : ∀ W, (binOp .eql 25 (vv 3 0) (vv 3 0)).run Tryd.prog W = .ok (.bool true) W := fun W => by kernel_rfl
  have q2 : ∀ W, (binOp .eql 25 (vv 3 2) (vv 3 2)).run Tryd.prog W = .ok (.bool true) W := fun W => by kernel_rfl
  clear hg
  go_enter Tryd.func15, Tryd.ntmps15
  go_wp2_with fail
  refine (num_c _ _).mono ?_; rintro e w1 ⟨rfl, h1⟩; replace h1 := Aside0.mk h1; go_wp2_with fail
  refine (dec_c _ _).mono ?_; rintro e w2 ⟨rfl, h2⟩; replace h2 := Aside0.mk h2; go_wp2_with fail
  refine (C.out _).mono ?_; rintro e w3 ⟨rfl, h3⟩; replace h3 := Aside0.mk h3; go_wp2_with fail
  refine (num_c _ _).mono ?_; rintro e w4 ⟨rfl, h4⟩; replace h4 := Aside0.mk h4; go_wp2_with fail
  refine (num_c _ _).mono ?_; rintro e w5 ⟨rfl, h5⟩; replace h5 := Aside0.mk h5; go_wp2_with fail
  refine (A.out _).mono ?_; rintro e w6 ⟨rfl, h6⟩; replace h6 := Aside0.mk h6; go_wp2_with fail
  refine (dec_c _ _).mono ?_; rintro e w7 ⟨rfl, h7⟩; replace h7 := Aside0.mk h7; go_wp2_with fail
  refine (dec_c _ _).mono ?_; rintro e w8 ⟨rfl, h8⟩; replace h8 := Aside0.mk h8; go_wp2_with fail
  refine (M1.out _).mono ?_; rintro e w9 ⟨rfl, h9⟩; replace h9 := Aside0.mk h9; go_wp2_with fail
  refine (dec_c _ _).mono ?_; rintro e w10 ⟨rfl, h10⟩
  obtain ⟨c10, f10, l10⟩ := bcells h10 w9.heap.size (by simp)
  replace h10 := Aside0.mk h10; go_wp2_with fail
  refine (dec_c _ _).mono ?_; rintro e w11 ⟨rfl, h11⟩
  obtain ⟨c11, f11, l11⟩ := bcells h11 w9.heap.size l10
  replace h11 := Aside0.mk h11; go_wp2_with fail
  refine (M2.out _).mono ?_; rintro e w12 ⟨rfl, h12⟩
  obtain ⟨c12, f12, l12⟩ := bcells h12 w9.heap.size l11
  replace h12 := Aside0.mk h12; go_wp2_with fail
  have Bw : Below w.heap.size w w12 := below_step (below_step (below_step (below_alloc (below_step (below_step (below_step (below_alloc (below_step (below_step (below_step (below_step (below_step (below_step (Below.refl _ _) h1.out) h2.out) h3.out) h4.out) h5.out) h6.out) _) h7.out) h8.out) h9.out) _) h10.out) h11.out) h12.out
  have G2 := Aside0.mk (VOK.below (VOK.below G.out Bw) (below_alloc (Below.refl _ _) (.cells #[.int .u8 3, .int .i64 2, .string ⟨#[]⟩] 25)))
  replace Bw := Aside0.mk Bw
  clear h1 h2 h3 h4 h5 h6 h7 h8 h9 h10 h11 h12
  obtain ⟨wz, hwz⟩ : ∃ wz, wz = w12.alloc (.cells #[.int .u8 3, .int .i64 2, .string ⟨#[]⟩] 25) := ⟨_, rfl⟩
  have ra0 : ∀ W, Below wz.heap.size wz W → W.cell? ⟨w9.heap.size, 0, none⟩ = some (.int .u8 3) := fun W h => pw_cell_below h (by subst hwz; go_simp)
  have ra1 : ∀ W, Below wz.heap.size wz W → W.cell? ⟨w9.heap.size, 1, none⟩ = some (.int .i64 0) := fun W h => pw_cell_below h (by subst hwz; go_simp)
  have ra2 : ∀ W, Below wz.heap.size wz W → W.cell? ⟨w9.heap.size, 2, none⟩ = some (.string ⟨#[]⟩) := fun W h => pw_cell_below h (by subst hwz; go_simp)
  have rb0 : ∀ W, Below wz.heap.size wz W → W.cell? ⟨w12.heap.size, 0, none⟩ = some (.int .u8 3) := fun W h => pw_cell_below h (by subst hwz; go_simp)
  have rb1 : ∀ W, Below wz.heap.size wz W → W.cell? ⟨w12.heap.size, 1, none⟩ = some (.int .i64 2) := fun W h => pw_cell_below h (by subst hwz; go_simp)
  have rb2 : ∀ W, Below wz.heap.size wz W → W.cell? ⟨w12.heap.size, 2, none⟩ = some (.string ⟨#[]⟩) := fun W h => pw_cell_below h (by subst hwz; go_simp)
  have Bz : Below w.heap.size w wz := by rw [hwz]; exact below_alloc Bw.out _
  replace Bz := Aside0.mk Bz
  rw [← hwz] at G2
  rw [← hwz]
  clear c10 c11 c12 f10 f11 f12 l10 l11 l12 hwz Bw
  have St0 := Aside0.mk (show Below wz.heap.size wz wz.drew from below_drew1 (Below.refl _ _))
  go_region_held3 (fun W => Below wz.heap.size wz W)
    (first | (with_reducible exact St0.out) | (with_reducible exact below_step (by assumption) hb) | (with_reducible exact pw_below_drewN (by assumption) _))
    (first | (((with_reducible refine (dec_c _ _).mono ?_); rintro e w' ⟨rfl, hb⟩)) | (((with_reducible refine (num_c _ _).mono ?_); rintro e w' ⟨rfl, hb⟩)) | (((with_reducible refine (An.out _ (VOK.below G2.out (by assumption))).mono ?_); rintro e w' ⟨rfl, ⟨nn, rfl⟩⟩)) | (((with_reducible refine (Pr.out _ (VOK.below G2.out (by assumption))).mono ?_); rintro e w' ⟨rfl, hb⟩)) | (((with_reducible refine (R.out _).mono ?_); rintro e w' ⟨rfl, hb⟩)))
  go_wp2
  go_ret
  exact ⟨rfl, below_step Bz.out (by first | assumption | exact below_step (by assumption) hb)⟩
end Go.Proofs.YtbodlnoipkommaaDoor.Xa
namespace Go.Proofs.YtbodlnoipkommaaDoor.Xr
open Go Go.RowKit Go.Proofs.YtbodlnoipkommaaDoor.Q Go.Proofs.YtbodlnoipkommaaDoor.Wf Go.Proofs.YtbodlnoipkommaaDoor.Wh Go.Proofs.YtbodlnoipkommaaDoor.Wp Go.Proofs.YtbodlnoipkommaaDoor.Xa Go.Proofs.YtbodlnoipkommaaDoorW.PrintWords Go.Proofs.YtbodlnoipkommaaDoorW.PrintLast Go.Proofs.YtbodlnoipkommaaDoorW.PrintMore
set_option linter.unusedVariables false
theorem eqv (k n : Int) (s : ByteArray) (W : World) : (binOp .eql 25 (.agg #[.int .u8 k, .int .i64 n, .string s]) (.agg #[.int .u8 k, .int .i64 n, .string s])).run Tryd.prog W = .ok (.bool true) W := by
  rw [run_eql_struct, eqA25 9998]
  simp
set_option maxRecDepth 100000 in
set_option maxHeartbeats 4000000 in
theorem reckons_walk (k0 n0 k1 n1 a0 a1 a3 b0 b1 b3 c0 c1 c3 d0 d1 d3 : Int) (s0 s1 a2 b2 c2 d2 : ByteArray) (w : World) (hg : VOK w)
    (A : ∀ W, Calls Tryd.prog 19 #[(.agg #[.int .u8 k0, .int .i64 n0, .string s0]), (.agg #[.int .u8 k1, .int .i64 n1, .string s1])] W fun e w' => e = .returned (.tuple #[(.agg #[.int .u8 a0, .int .i64 a1, .string a2]), .int .i64 a3]) ∧ Below W.heap.size W w')
    (S : ∀ W, Calls Tryd.prog 17 #[(.agg #[.int .u8 k0, .int .i64 n0, .string s0]), (.agg #[.int .u8 k1, .int .i64 n1, .string s1])] W fun e w' => e = .returned (.tuple #[(.agg #[.int .u8 b0, .int .i64 b1, .string b2]), .int .i64 b3]) ∧ Below W.heap.size W w')
    (M : ∀ W, Calls Tryd.prog 20 #[(.agg #[.int .u8 k0, .int .i64 n0, .string s0]), (.agg #[.int .u8 k1, .int .i64 n1, .string s1])] W fun e w' => e = .returned (.tuple #[(.agg #[.int .u8 c0, .int .i64 c1, .string c2]), .int .i64 c3]) ∧ Below W.heap.size W w')
    (G : ∀ W, Calls Tryd.prog 21 #[(.agg #[.int .u8 k0, .int .i64 n0, .string s0])] W fun e w' => e = .returned (.tuple #[(.agg #[.int .u8 d0, .int .i64 d1, .string d2]), .int .i64 d3]) ∧ Below W.heap.size W w')
    (A' : ∀ W, Calls Tryd.prog 22 #[(.agg #[.int .u8 k0, .int .i64 n0, .string s0]), (.agg #[.int .u8 k1, .int .i64 n1, .string s1])] W fun e w' => e = .returned (.tuple #[(.agg #[.int .u8 a0, .int .i64 a1, .string a2]), .int .i64 a3]) ∧ Below W.heap.size W w')
    (S' : ∀ W, Calls Tryd.prog 23 #[(.agg #[.int .u8 k0, .int .i64 n0, .string s0]), (.agg #[.int .u8 k1, .int .i64 n1, .string s1])] W fun e w' => e = .returned (.tuple #[(.agg #[.int .u8 b0, .int .i64 b1, .string b2]), .int .i64 b3]) ∧ Below W.heap.size W w')
    (M' : ∀ W, Calls Tryd.prog 24 #[(.agg #[.int .u8 k0, .int .i64 n0, .string s0]), (.agg #[.int .u8 k1, .int .i64 n1, .string s1])] W fun e w' => e = .returned (.tuple #[(.agg #[.int .u8 c0, .int .i64 c1, .string c2]), .int .i64 c3]) ∧ Below W.heap.size W w')
    (G' : ∀ W, Calls Tryd.prog 25 #[(.agg #[.int .u8 k0, .int .i64 n0, .string s0])] W fun e w' => e = .returned (.tuple #[(.agg #[.int .u8 d0, .int .i64 d1, .string d2]), .int .i64 d3]) ∧ Below W.heap.size W w') :
    Calls Tryd.prog 6 #[(.agg #[.int .u8 k0, .int .i64 n0, .string s0]), (.agg #[.int .u8 k1, .int .i64 n1, .string s1])] w fun e w' => e = .returned (.bool true) ∧ Below w.heap.size w w' := by
  replace A := Aside0.mk A
  replace S := Aside0.mk S
  replace M := Aside0.mk M
  replace G := Aside0.mk G
  replace A' := Aside0.mk A'
  replace S' := Aside0.mk S'
  replace M' := Aside0.mk M'
  replace G' := Aside0.mk G'
  have HG := Aside0.mk hg
  clear hg
  have qa := eqv a0 a1 a2
  have qb := eqv b0 b1 b2
  have qc := eqv c0 c1 c2
  have qd := eqv d0 d1 d2
  go_enter Tryd.func6, Tryd.ntmps6
  go_wp2_with fail
  refine (A.out _).mono ?_
  rintro e w1 ⟨rfl, hb1⟩
  have L1x : w.heap.size < w1.heap.size := Nat.lt_of_lt_of_le (by first | assumption | (simp; done) | (simp; omega) | omega : w.heap.size < _) hb1.size
  have r1x0 : w1.cell? ⟨w.heap.size, 0, none⟩ = some (.int .u8 k0) := (hb1.cell (p := ⟨w.heap.size, 0, none⟩) (by first | assumption | (simp; done) | (simp; omega) | omega)).trans (by first | assumption | (go_simp; done) | (simp [*]; done))
  have r1x1 : w1.cell? ⟨w.heap.size, 1, none⟩ = some (.int .i64 n0) := (hb1.cell (p := ⟨w.heap.size, 1, none⟩) (by first | assumption | (simp; done) | (simp; omega) | omega)).trans (by first | assumption | (go_simp; done) | (simp [*]; done))
  have r1x2 : w1.cell? ⟨w.heap.size, 2, none⟩ = some (.string s0) := (hb1.cell (p := ⟨w.heap.size, 2, none⟩) (by first | assumption | (simp; done) | (simp; omega) | omega)).trans (by first | assumption | (go_simp; done) | (simp [*]; done))
  have L1y : w.heap.size + 1 < w1.heap.size := Nat.lt_of_lt_of_le (by first | assumption | (simp; done) | (simp; omega) | omega : w.heap.size + 1 < _) hb1.size
  have r1y0 : w1.cell? ⟨w.heap.size + 1, 0, none⟩ = some (.int .u8 k1) := (hb1.cell (p := ⟨w.heap.size + 1, 0, none⟩) (by first | assumption | (simp; done) | (simp; omega) | omega)).trans (by first | assumption | (go_simp; done) | (simp [*]; done))
  have r1y1 : w1.cell? ⟨w.heap.size + 1, 1, none⟩ = some (.int .i64 n1) := (hb1.cell (p := ⟨w.heap.size + 1, 1, none⟩) (by first | assumption | (simp; done) | (simp; omega) | omega)).trans (by first | assumption | (go_simp; done) | (simp [*]; done))
  have r1y2 : w1.cell? ⟨w.heap.size + 1, 2, none⟩ = some (.string s1) := (hb1.cell (p := ⟨w.heap.size + 1, 2, none⟩) (by first | assumption | (simp; done) | (simp; omega) | omega)).trans (by first | assumption | (go_simp; done) | (simp [*]; done))
  have B1 := Aside0.mk (below_step (below_alloc (below_alloc (Below.refl _ _) _) _) hb1)
  clear hb1
  go_wp2_with fail
  refine (S.out _).mono ?_
  rintro e w2 ⟨rfl, hb2⟩
  have L2x : w.heap.size < w2.heap.size := Nat.lt_of_lt_of_le (by first | assumption | (simp; done) | (simp; omega) | omega : w.heap.size < _) hb2.size
  have r2x0 : w2.cell? ⟨w.heap.size, 0, none⟩ = some (.int .u8 k0) := (hb2.cell (p := ⟨w.heap.size, 0, none⟩) (by first | assumption | (simp; done) | (simp; omega) | omega)).trans (by first | assumption | (go_simp; done) | (simp [*]; done))
  have r2x1 : w2.cell? ⟨w.heap.size, 1, none⟩ = some (.int .i64 n0) := (hb2.cell (p := ⟨w.heap.size, 1, none⟩) (by first | assumption | (simp; done) | (simp; omega) | omega)).trans (by first | assumption | (go_simp; done) | (simp [*]; done))
  have r2x2 : w2.cell? ⟨w.heap.size, 2, none⟩ = some (.string s0) := (hb2.cell (p := ⟨w.heap.size, 2, none⟩) (by first | assumption | (simp; done) | (simp; omega) | omega)).trans (by first | assumption | (go_simp; done) | (simp [*]; done))
  have L2y : w.heap.size + 1 < w2.heap.size := Nat.lt_of_lt_of_le (by first | assumption | (simp; done) | (simp; omega) | omega : w.heap.size + 1 < _) hb2.size
  have r2y0 : w2.cell? ⟨w.heap.size + 1, 0, none⟩ = some (.int .u8 k1) := (hb2.cell (p := ⟨w.heap.size + 1, 0, none⟩) (by first | assumption | (simp; done) | (simp; omega) | omega)).trans (by first | assumption | (go_simp; done) | (simp [*]; done))
  have r2y1 : w2.cell? ⟨w.heap.size + 1, 1, none⟩ = some (.int .i64 n1) := (hb2.cell (p := ⟨w.heap.size + 1, 1, none⟩) (by first | assumption | (simp; done) | (simp; omega) | omega)).trans (by first | assumption | (go_simp; done) | (simp [*]; done))
  have r2y2 : w2.cell? ⟨w.heap.size + 1, 2, none⟩ = some (.string s1) := (hb2.cell (p := ⟨w.heap.size + 1, 2, none⟩) (by first | assumption | (simp; done) | (simp; omega) | omega)).trans (by first | assumption | (go_simp; done) | (simp [*]; done))
  have L2z1 : w1.heap.size < w2.heap.size := Nat.lt_of_lt_of_le (by first | assumption | (simp; done) | (simp; omega) | omega : w1.heap.size < _) hb2.size
  have r2z10 : w2.cell? ⟨w1.heap.size, 0, none⟩ = some (.int .u8 a0) := (hb2.cell (p := ⟨w1.heap.size, 0, none⟩) (by first | assumption | (simp; done) | (simp; omega) | omega)).trans (by first | assumption | (go_simp; done) | (simp [*]; done))
  have r2z11 : w2.cell? ⟨w1.heap.size, 1, none⟩ = some (.int .i64 a1) := (hb2.cell (p := ⟨w1.heap.size, 1, none⟩) (by first | assumption | (simp; done) | (simp; omega) | omega)).trans (by first | assumption | (go_simp; done) | (simp [*]; done))
  have r2z12 : w2.cell? ⟨w1.heap.size, 2, none⟩ = some (.string a2) := (hb2.cell (p := ⟨w1.heap.size, 2, none⟩) (by first | assumption | (simp; done) | (simp; omega) | omega)).trans (by first | assumption | (go_simp; done) | (simp [*]; done))
  have B2 := Aside0.mk (below_step (below_alloc B1.out _) hb2)
  clear hb2
  clear L1x L1y r1x0 r1x1 r1x2 r1y0 r1y1 r1y2
  go_wp2_with fail
  refine (M.out _).mono ?_
  rintro e w3 ⟨rfl, hb3⟩
  have L3x : w.heap.size < w3.heap.size := Nat.lt_of_lt_of_le (by first | assumption | (simp; done) | (simp; omega) | omega : w.heap.size < _) hb3.size
  have r3x0 : w3.cell? ⟨w.heap.size, 0, none⟩ = some (.int .u8 k0) := (hb3.cell (p := ⟨w.heap.size, 0, none⟩) (by first | assumption | (simp; done) | (simp; omega) | omega)).trans (by first | assumption | (go_simp; done) | (simp [*]; done))
  have r3x1 : w3.cell? ⟨w.heap.size, 1, none⟩ = some (.int .i64 n0) := (hb3.cell (p := ⟨w.heap.size, 1, none⟩) (by first | assumption | (simp; done) | (simp; omega) | omega)).trans (by first | assumption | (go_simp; done) | (simp [*]; done))
  have r3x2 : w3.cell? ⟨w.heap.size, 2, none⟩ = some (.string s0) := (hb3.cell (p := ⟨w.heap.size, 2, none⟩) (by first | assumption | (simp; done) | (simp; omega) | omega)).trans (by first | assumption | (go_simp; done) | (simp [*]; done))
  have L3y : w.heap.size + 1 < w3.heap.size := Nat.lt_of_lt_of_le (by first | assumption | (simp; done) | (simp; omega) | omega : w.heap.size + 1 < _) hb3.size
  have r3y0 : w3.cell? ⟨w.heap.size + 1, 0, none⟩ = some (.int .u8 k1) := (hb3.cell (p := ⟨w.heap.size + 1, 0, none⟩) (by first | assumption | (simp; done) | (simp; omega) | omega)).trans (by first | assumption | (go_simp; done) | (simp [*]; done))
  have r3y1 : w3.cell? ⟨w.heap.size + 1, 1, none⟩ = some (.int .i64 n1) := (hb3.cell (p := ⟨w.heap.size + 1, 1, none⟩) (by first | assumption | (simp; done) | (simp; omega) | omega)).trans (by first | assumption | (go_simp; done) | (simp [*]; done))
  have r3y2 : w3.cell? ⟨w.heap.size + 1, 2, none⟩ = some (.string s1) := (hb3.cell (p := ⟨w.heap.size + 1, 2, none⟩) (by first | assumption | (simp; done) | (simp; omega) | omega)).trans (by first | assumption | (go_simp; done) | (simp [*]; done))
  have L3z1 : w1.heap.size < w3.heap.size := Nat.lt_of_lt_of_le (by first | assumption | (simp; done) | (simp; omega) | omega : w1.heap.size < _) hb3.size
  have r3z10 : w3.cell? ⟨w1.heap.size, 0, none⟩ = some (.int .u8 a0) := (hb3.cell (p := ⟨w1.heap.size, 0, none⟩) (by first | assumption | (simp; done) | (simp; omega) | omega)).trans (by first | assumption | (go_simp; done) | (simp [*]; done))
  have r3z11 : w3.cell? ⟨w1.heap.size, 1, none⟩ = some (.int .i64 a1) := (hb3.cell (p := ⟨w1.heap.size, 1, none⟩) (by first | assumption | (simp; done) | (simp; omega) | omega)).trans (by first | assumption | (go_simp; done) | (simp [*]; done))
  have r3z12 : w3.cell? ⟨w1.heap.size, 2, none⟩ = some (.string a2) := (hb3.cell (p := ⟨w1.heap.size, 2, none⟩) (by first | assumption | (simp; done) | (simp; omega) | omega)).trans (by first | assumption | (go_simp; done) | (simp [*]; done))
  have L3z2 : w2.heap.size < w3.heap.size := Nat.lt_of_lt_of_le (by first | assumption | (simp; done) | (simp; omega) | omega : w2.heap.size < _) hb3.size
  have r3z20 : w3.cell? ⟨w2.heap.size, 0, none⟩ = some (.int .u8 b0) := (hb3.cell (p := ⟨w2.heap.size, 0, none⟩) (by first | assumption | (simp; done) | (simp; omega) | omega)).trans (by first | assumption | (go_simp; done) | (simp [*]; done))
  have r3z21 : w3.cell? ⟨w2.heap.size, 1, none⟩ = some (.int .i64 b1) := (hb3.cell (p := ⟨w2.heap.size, 1, none⟩) (by first | assumption | (simp; done) | (simp; omega) | omega)).trans (by first | assumption | (go_simp; done) | (simp [*]; done))
  have r3z22 : w3.cell? ⟨w2.heap.size, 2, none⟩ = some (.string b2) := (hb3.cell (p := ⟨w2.heap.size, 2, none⟩) (by first | assumption | (simp; done) | (simp; omega) | omega)).trans (by first | assumption | (go_simp; done) | (simp [*]; done))
  have B3 := Aside0.mk (below_step (below_alloc B2.out _) hb3)
  clear hb3
  clear L2x L2y L2z1 r2x0 r2x1 r2x2 r2y0 r2y1 r2y2 r2z10 r2z11 r2z12
  go_wp2_with fail
  refine (G.out _).mono ?_
  rintro e w4 ⟨rfl, hb4⟩
  have L4x : w.heap.size < w4.heap.size := Nat.lt_of_lt_of_le (by first | assumption | (simp; done) | (simp; omega) | omega : w.heap.size < _) hb4.size
  have r4x0 : w4.cell? ⟨w.heap.size, 0, none⟩ = some (.int .u8 k0) := (hb4.cell (p := ⟨w.heap.size, 0, none⟩) (by first | assumption | (simp; done) | (simp; omega) | omega)).trans (by first | assumption | (go_simp; done) | (simp [*]; done))
  have r4x1 : w4.cell? ⟨w.heap.size, 1, none⟩ = some (.int .i64 n0) := (hb4.cell (p := ⟨w.heap.size, 1, none⟩) (by first | assumption | (simp; done) | (simp; omega) | omega)).trans (by first | assumption | (go_simp; done) | (simp [*]; done))
  have r4x2 : w4.cell? ⟨w.heap.size, 2, none⟩ = some (.string s0) := (hb4.cell (p := ⟨w.heap.size, 2, none⟩) (by first | assumption | (simp; done) | (simp; omega) | omega)).trans (by first | assumption | (go_simp; done) | (simp [*]; done))
  have L4y : w.heap.size + 1 < w4.heap.size := Nat.lt_of_lt_of_le (by first | assumption | (simp; done) | (simp; omega) | omega : w.heap.size + 1 < _) hb4.size
  have r4y0 : w4.cell? ⟨w.heap.size + 1, 0, none⟩ = some (.int .u8 k1) := (hb4.cell (p := ⟨w.heap.size + 1, 0, none⟩) (by first | assumption | (simp; done) | (simp; omega) | omega)).trans (by first | assumption | (go_simp; done) | (simp [*]; done))
  have r4y1 : w4.cell? ⟨w.heap.size + 1, 1, none⟩ = some (.int .i64 n1) := (hb4.cell (p := ⟨w.heap.size + 1, 1, none⟩) (by first | assumption | (simp; done) | (simp; omega) | omega)).trans (by first | assumption | (go_simp; done) | (simp [*]; done))
  have r4y2 : w4.cell? ⟨w.heap.size + 1, 2, none⟩ = some (.string s1) := (hb4.cell (p := ⟨w.heap.size + 1, 2, none⟩) (by first | assumption | (simp; done) | (simp; omega) | omega)).trans (by first | assumption | (go_simp; done) | (simp [*]; done))
  have L4z1 : w1.heap.size < w4.heap.size := Nat.lt_of_lt_of_le (by first | assumption | (simp; done) | (simp; omega) | omega : w1.heap.size < _) hb4.size
  have r4z10 : w4.cell? ⟨w1.heap.size, 0, none⟩ = some (.int .u8 a0) := (hb4.cell (p := ⟨w1.heap.size, 0, none⟩) (by first | assumption | (simp; done) | (simp; omega) | omega)).trans (by first | assumption | (go_simp; done) | (simp [*]; done))
  have r4z11 : w4.cell? ⟨w1.heap.size, 1, none⟩ = some (.int .i64 a1) := (hb4.cell (p := ⟨w1.heap.size, 1, none⟩) (by first | assumption | (simp; done) | (simp; omega) | omega)).trans (by first | assumption | (go_simp; done) | (simp [*]; done))
  have r4z12 : w4.cell? ⟨w1.heap.size, 2, none⟩ = some (.string a2) := (hb4.cell (p := ⟨w1.heap.size, 2, none⟩) (by first | assumption | (simp; done) | (simp; omega) | omega)).trans (by first | assumption | (go_simp; done) | (simp [*]; done))
  have L4z2 : w2.heap.size < w4.heap.size := Nat.lt_of_lt_of_le (by first | assumption | (simp; done) | (simp; omega) | omega : w2.heap.size < _) hb4.size
  have r4z20 : w4.cell? ⟨w2.heap.size, 0, none⟩ = some (.int .u8 b0) := (hb4.cell (p := ⟨w2.heap.size, 0, none⟩) (by first | assumption | (simp; done) | (simp; omega) | omega)).trans (by first | assumption | (go_simp; done) | (simp [*]; done))
  have r4z21 : w4.cell? ⟨w2.heap.size, 1, none⟩ = some (.int .i64 b1) := (hb4.cell (p := ⟨w2.heap.size, 1, none⟩) (by first | assumption | (simp; done) | (simp; omega) | omega)).trans (by first | assumption | (go_simp; done) | (simp [*]; done))
  have r4z22 : w4.cell? ⟨w2.heap.size, 2, none⟩ = some (.string b2) := (hb4.cell (p := ⟨w2.heap.size, 2, none⟩) (by first | assumption | (simp; done) | (simp; omega) | omega)).trans (by first | assumption | (go_simp; done) | (simp [*]; done))
  have L4z3 : w3.heap.size < w4.heap.size := Nat.lt_of_lt_of_le (by first | assumption | (simp; done) | (simp; omega) | omega : w3.heap.size < _) hb4.size
  have r4z30 : w4.cell? ⟨w3.heap.size, 0, none⟩ = some (.int .u8 c0) := (hb4.cell (p := ⟨w3.heap.size, 0, none⟩) (by first | assumption | (simp; done) | (simp; omega) | omega)).trans (by first | assumption | (go_simp; done) | (simp [*]; done))
  have r4z31 : w4.cell? ⟨w3.heap.size, 1, none⟩ = some (.int .i64 c1) := (hb4.cell (p := ⟨w3.heap.size, 1, none⟩) (by first | assumption | (simp; done) | (simp; omega) | omega)).trans (by first | assumption | (go_simp; done) | (simp [*]; done))
  have r4z32 : w4.cell? ⟨w3.heap.size, 2, none⟩ = some (.string c2) := (hb4.cell (p := ⟨w3.heap.size, 2, none⟩) (by first | assumption | (simp; done) | (simp; omega) | omega)).trans (by first | assumption | (go_simp; done) | (simp [*]; done))
  have B4 := Aside0.mk (below_step (below_alloc B3.out _) hb4)
  clear hb4
  clear L3x L3y L3z1 L3z2 r3x0 r3x1 r3x2 r3y0 r3y1 r3y2 r3z10 r3z11 r3z12 r3z20 r3z21 r3z22
  go_wp2_with fail
  refine (A'.out _).mono ?_
  rintro e w5 ⟨rfl, hb5⟩
  have L5x : w.heap.size < w5.heap.size := Nat.lt_of_lt_of_le (by first | assumption | (simp; done) | (simp; omega) | omega : w.heap.size < _) hb5.size
  have r5x0 : w5.cell? ⟨w.heap.size, 0, none⟩ = some (.int .u8 k0) := (hb5.cell (p := ⟨w.heap.size, 0, none⟩) (by first | assumption | (simp; done) | (simp; omega) | omega)).trans (by first | assumption | (go_simp; done) | (simp [*]; done))
  have r5x1 : w5.cell? ⟨w.heap.size, 1, none⟩ = some (.int .i64 n0) := (hb5.cell (p := ⟨w.heap.size, 1, none⟩) (by first | assumption | (simp; done) | (simp; omega) | omega)).trans (by first | assumption | (go_simp; done) | (simp [*]; done))
  have r5x2 : w5.cell? ⟨w.heap.size, 2, none⟩ = some (.string s0) := (hb5.cell (p := ⟨w.heap.size, 2, none⟩) (by first | assumption | (simp; done) | (simp; omega) | omega)).trans (by first | assumption | (go_simp; done) | (simp [*]; done))
  have L5y : w.heap.size + 1 < w5.heap.size := Nat.lt_of_lt_of_le (by first | assumption | (simp; done) | (simp; omega) | omega : w.heap.size + 1 < _) hb5.size
  have r5y0 : w5.cell? ⟨w.heap.size + 1, 0, none⟩ = some (.int .u8 k1) := (hb5.cell (p := ⟨w.heap.size + 1, 0, none⟩) (by first | assumption | (simp; done) | (simp; omega) | omega)).trans (by first | assumption | (go_simp; done) | (simp [*]; done))
  have r5y1 : w5.cell? ⟨w.heap.size + 1, 1, none⟩ = some (.int .i64 n1) := (hb5.cell (p := ⟨w.heap.size + 1, 1, none⟩) (by first | assumption | (simp; done) | (simp; omega) | omega)).trans (by first | assumption | (go_simp; done) | (simp [*]; done))
  have r5y2 : w5.cell? ⟨w.heap.size + 1, 2, none⟩ = some (.string s1) := (hb5.cell (p := ⟨w.heap.size + 1, 2, none⟩) (by first | assumption | (simp; done) | (simp; omega) | omega)).trans (by first | assumption | (go_simp; done) | (simp [*]; done))
  have L5z1 : w1.heap.size < w5.heap.size := Nat.lt_of_lt_of_le (by first | assumption | (simp; done) | (simp; omega) | omega : w1.heap.size < _) hb5.size
  have r5z10 : w5.cell? ⟨w1.heap.size, 0, none⟩ = some (.int .u8 a0) := (hb5.cell (p := ⟨w1.heap.size, 0, none⟩) (by first | assumption | (simp; done) | (simp; omega) | omega)).trans (by first | assumption | (go_simp; done) | (simp [*]; done))
  have r5z11 : w5.cell? ⟨w1.heap.size, 1, none⟩ = some (.int .i64 a1) := (hb5.cell (p := ⟨w1.heap.size, 1, none⟩) (by first | assumption | (simp; done) | (simp; omega) | omega)).trans (by first | assumption | (go_simp; done) | (simp [*]; done))
  have r5z12 : w5.cell? ⟨w1.heap.size, 2, none⟩ = some (.string a2) := (hb5.cell (p := ⟨w1.heap.size, 2, none⟩) (by first | assumption | (simp; done) | (simp; omega) | omega)).trans (by first | assumption | (go_simp; done) | (simp [*]; done))
  have L5z2 : w2.heap.size < w5.heap.size := Nat.lt_of_lt_of_le (by first | assumption | (simp; done) | (simp; omega) | omega : w2.heap.size < _) hb5.size
  have r5z20 : w5.cell? ⟨w2.heap.size, 0, none⟩ = some (.int .u8 b0) := (hb5.cell (p := ⟨w2.heap.size, 0, none⟩) (by first | assumption | (simp; done) | (simp; omega) | omega)).trans (by first | assumption | (go_simp; done) | (simp [*]; done))
  have r5z21 : w5.cell? ⟨w2.heap.size, 1, none⟩ = some (.int .i64 b1) := (hb5.cell (p := ⟨w2.heap.size, 1, none⟩) (by first | assumption | (simp; done) | (simp; omega) | omega)).trans (by first | assumption | (go_simp; done) | (simp [*]; done))
  have r5z22 : w5.cell? ⟨w2.heap.size, 2, none⟩ = some (.string b2) := (hb5.cell (p := ⟨w2.heap.size, 2, none⟩) (by first | assumption | (simp; done) | (simp; omega) | omega)).trans (by first | assumption | (go_simp; done) | (simp [*]; done))
  have L5z3 : w3.heap.size < w5.heap.size := Nat.lt_of_lt_of_le (by first | assumption | (simp; done) | (simp; omega) | omega : w3.heap.size < _) hb5.size
  have r5z30 : w5.cell? ⟨w3.heap.size, 0, none⟩ = some (.int .u8 c0) := (hb5.cell (p := ⟨w3.heap.size, 0, none⟩) (by first | assumption | (simp; done) | (simp; omega) | omega)).trans (by first | assumption | (go_simp; done) | (simp [*]; done))
  have r5z31 : w5.cell? ⟨w3.heap.size, 1, none⟩ = some (.int .i64 c1) := (hb5.cell (p := ⟨w3.heap.size, 1, none⟩) (by first | assumption | (simp; done) | (simp; omega) | omega)).trans (by first | assumption | (go_simp; done) | (simp [*]; done))
  have r5z32 : w5.cell? ⟨w3.heap.size, 2, none⟩ = some (.string c2) := (hb5.cell (p := ⟨w3.heap.size, 2, none⟩) (by first | assumption | (simp; done) | (simp; omega) | omega)).trans (by first | assumption | (go_simp; done) | (simp [*]; done))
  have L5z4 : w4.heap.size < w5.heap.size := Nat.lt_of_lt_of_le (by first | assumption | (simp; done) | (simp; omega) | omega : w4.heap.size < _) hb5.size
  have r5z40 : w5.cell? ⟨w4.heap.size, 0, none⟩ = some (.int .u8 d0) := (hb5.cell (p := ⟨w4.heap.size, 0, none⟩) (by first | assumption | (simp; done) | (simp; omega) | omega)).trans (by first | assumption | (go_simp; done) | (simp [*]; done))
  have r5z41 : w5.cell? ⟨w4.heap.size, 1, none⟩ = some (.int .i64 d1) := (hb5.cell (p := ⟨w4.heap.size, 1, none⟩) (by first | assumption | (simp; done) | (simp; omega) | omega)).trans (by first | assumption | (go_simp; done) | (simp [*]; done))
  have r5z42 : w5.cell? ⟨w4.heap.size, 2, none⟩ = some (.string d2) := (hb5.cell (p := ⟨w4.heap.size, 2, none⟩) (by first | assumption | (simp; done) | (simp; omega) | omega)).trans (by first | assumption | (go_simp; done) | (simp [*]; done))
  have B5 := Aside0.mk (below_step (below_alloc B4.out _) hb5)
  clear hb5
  clear L4x L4y L4z1 L4z2 L4z3 r4x0 r4x1 r4x2 r4y0 r4y1 r4y2 r4z10 r4z11 r4z12 r4z20 r4z21 r4z22 r4z30 r4z31 r4z32
  go_wp2_with fail
  refine (S'.out _).mono ?_
  rintro e w6 ⟨rfl, hb6⟩
  have L6x : w.heap.size < w6.heap.size := Nat.lt_of_lt_of_le (by first | assumption | (simp; done) | (simp; omega) | omega : w.heap.size < _) hb6.size
  have r6x0 : w6.cell? ⟨w.heap.size, 0, none⟩ = some (.int .u8 k0) := (hb6.cell (p := ⟨w.heap.size, 0, none⟩) (by first | assumption | (simp; done) | (simp; omega) | omega)).trans (by first | assumption | (go_simp; done) | (simp [*]; done))
  have r6x1 : w6.cell? ⟨w.heap.size, 1, none⟩ = some (.int .i64 n0) := (hb6.cell (p := ⟨w.heap.size, 1, none⟩) (by first | assumption | (simp; done) | (simp; omega) | omega)).trans (by first | assumption | (go_simp; done) | (simp [*]; done))
  have r6x2 : w6.cell? ⟨w.heap.size, 2, none⟩ = some (.string s0) := (hb6.cell (p := ⟨w.heap.size, 2, none⟩) (by first | assumption | (simp; done) | (simp; omega) | omega)).trans (by first | assumption | (go_simp; done) | (simp [*]; done))
  have L6y : w.heap.size + 1 < w6.heap.size := Nat.lt_of_lt_of_le (by first | assumption | (simp; done) | (simp; omega) | omega : w.heap.size + 1 < _) hb6.size
  have r6y0 : w6.cell? ⟨w.heap.size + 1, 0, none⟩ = some (.int .u8 k1) := (hb6.cell (p := ⟨w.heap.size + 1, 0, none⟩) (by first | assumption | (simp; done) | (simp; omega) | omega)).trans (by first | assumption | (go_simp; done) | (simp [*]; done))
  have r6y1 : w6.cell? ⟨w.heap.size + 1, 1, none⟩ = some (.int .i64 n1) := (hb6.cell (p := ⟨w.heap.size + 1, 1, none⟩) (by first | assumption | (simp; done) | (simp; omega) | omega)).trans (by first | assumption | (go_simp; done) | (simp [*]; done))
  have r6y2 : w6.cell? ⟨w.heap.size + 1, 2, none⟩ = some (.string s1) := (hb6.cell (p := ⟨w.heap.size + 1, 2, none⟩) (by first | assumption | (simp; done) | (simp; omega) | omega)).trans (by first | assumption | (go_simp; done) | (simp [*]; done))
  have L6z1 : w1.heap.size < w6.heap.size := Nat.lt_of_lt_of_le (by first | assumption | (simp; done) | (simp; omega) | omega : w1.heap.size < _) hb6.size
  have r6z10 : w6.cell? ⟨w1.heap.size, 0, none⟩ = some (.int .u8 a0) := (hb6.cell (p := ⟨w1.heap.size, 0, none⟩) (by first | assumption | (simp; done) | (simp; omega) | omega)).trans (by first | assumption | (go_simp; done) | (simp [*]; done))
  have r6z11 : w6.cell? ⟨w1.heap.size, 1, none⟩ = some (.int .i64 a1) := (hb6.cell (p := ⟨w1.heap.size, 1, none⟩) (by first | assumption | (simp; done) | (simp; omega) | omega)).trans (by first | assumption | (go_simp; done) | (simp [*]; done))
  have r6z12 : w6.cell? ⟨w1.heap.size, 2, none⟩ = some (.string a2) := (hb6.cell (p := ⟨w1.heap.size, 2, none⟩) (by first | assumption | (simp; done) | (simp; omega) | omega)).trans (by first | assumption | (go_simp; done) | (simp [*]; done))
  have L6z2 : w2.heap.size < w6.heap.size := Nat.lt_of_lt_of_le (by first | assumption | (simp; done) | (simp; omega) | omega : w2.heap.size < _) hb6.size
  have r6z20 : w6.cell? ⟨w2.heap.size, 0, none⟩ = some (.int .u8 b0) := (hb6.cell (p := ⟨w2.heap.size, 0, none⟩) (by first | assumption | (simp; done) | (simp; omega) | omega)).trans (by first | assumption | (go_simp; done) | (simp [*]; done))
  have r6z21 : w6.cell? ⟨w2.heap.size, 1, none⟩ = some (.int .i64 b1) := (hb6.cell (p := ⟨w2.heap.size, 1, none⟩) (by first | assumption | (simp; done) | (simp; omega) | omega)).trans (by first | assumption | (go_simp; done) | (simp [*]; done))
  have r6z22 : w6.cell? ⟨w2.heap.size, 2, none⟩ = some (.string b2) := (hb6.cell (p := ⟨w2.heap.size, 2, none⟩) (by first | assumption | (simp; done) | (simp; omega) | omega)).trans (by first | assumption | (go_simp; done) | (simp [*]; done))
  have L6z3 : w3.heap.size < w6.heap.size := Nat.lt_of_lt_of_le (by first | assumption | (simp; done) | (simp; omega) | omega : w3.heap.size < _) hb6.size
  have r6z30 : w6.cell? ⟨w3.heap.size, 0, none⟩ = some (.int .u8 c0) := (hb6.cell (p := ⟨w3.heap.size, 0, none⟩) (by first | assumption | (simp; done) | (simp; omega) | omega)).trans (by first | assumption | (go_simp; done) | (simp [*]; done))
  have r6z31 : w6.cell? ⟨w3.heap.size, 1, none⟩ = some (.int .i64 c1) := (hb6.cell (p := ⟨w3.heap.size, 1, none⟩) (by first | assumption | (simp; done) | (simp; omega) | omega)).trans (by first | assumption | (go_simp; done) | (simp [*]; done))
  have r6z32 : w6.cell? ⟨w3.heap.size, 2, none⟩ = some (.string c2) := (hb6.cell (p := ⟨w3.heap.size, 2, none⟩) (by first | assumption | (simp; done) | (simp; omega) | omega)).trans (by first | assumption | (go_simp; done) | (simp [*]; done))
  have L6z4 : w4.heap.size < w6.heap.size := Nat.lt_of_lt_of_le (by first | assumption | (simp; done) | (simp; omega) | omega : w4.heap.size < _) hb6.size
  have r6z40 : w6.cell? ⟨w4.heap.size, 0, none⟩ = some (.int .u8 d0) := (hb6.cell (p := ⟨w4.heap.size, 0, none⟩) (by first | assumption | (simp; done) | (simp; omega) | omega)).trans (by first | assumption | (go_simp; done) | (simp [*]; done))
  have r6z41 : w6.cell? ⟨w4.heap.size, 1, none⟩ = some (.int .i64 d1) := (hb6.cell (p := ⟨w4.heap.size, 1, none⟩) (by first | assumption | (simp; done) | (simp; omega) | omega)).trans (by first | assumption | (go_simp; done) | (simp [*]; done))
  have r6z42 : w6.cell? ⟨w4.heap.size, 2, none⟩ = some (.string d2) := (hb6.cell (p := ⟨w4.heap.size, 2, none⟩) (by first | assumption | (simp; done) | (simp; omega) | omega)).trans (by first | assumption | (go_simp; done) | (simp [*]; done))
  have L6z5 : w5.heap.size < w6.heap.size := Nat.lt_of_lt_of_le (by first | assumption | (simp; done) | (simp; omega) | omega : w5.heap.size < _) hb6.size
  have r6z50 : w6.cell? ⟨w5.heap.size, 0, none⟩ = some (.int .u8 a0) := (hb6.cell (p := ⟨w5.heap.size, 0, none⟩) (by first | assumption | (simp; done) | (simp; omega) | omega)).trans (by first | assumption | (go_simp; done) | (simp [*]; done))
  have r6z51 : w6.cell? ⟨w5.heap.size, 1, none⟩ = some (.int .i64 a1) := (hb6.cell (p := ⟨w5.heap.size, 1, none⟩) (by first | assumption | (simp; done) | (simp; omega) | omega)).trans (by first | assumption | (go_simp; done) | (simp [*]; done))
  have r6z52 : w6.cell? ⟨w5.heap.size, 2, none⟩ = some (.string a2) := (hb6.cell (p := ⟨w5.heap.size, 2, none⟩) (by first | assumption | (simp; done) | (simp; omega) | omega)).trans (by first | assumption | (go_simp; done) | (simp [*]; done))
  have B6 := Aside0.mk (below_step (below_alloc B5.out _) hb6)
  clear hb6
  clear L5x L5y L5z1 L5z2 L5z3 L5z4 r5x0 r5x1 r5x2 r5y0 r5y1 r5y2 r5z10 r5z11 r5z12 r5z20 r5z21 r5z22 r5z30 r5z31 r5z32 r5z40 r5z41 r5z42
  go_wp2_with fail
  refine (M'.out _).mono ?_
  rintro e w7 ⟨rfl, hb7⟩
  have L7x : w.heap.size < w7.heap.size := Nat.lt_of_lt_of_le (by first | assumption | (simp; done) | (simp; omega) | omega : w.heap.size < _) hb7.size
  have r7x0 : w7.cell? ⟨w.heap.size, 0, none⟩ = some (.int .u8 k0) := (hb7.cell (p := ⟨w.heap.size, 0, none⟩) (by first | assumption | (simp; done) | (simp; omega) | omega)).trans (by first | assumption | (go_simp; done) | (simp [*]; done))
  have r7x1 : w7.cell? ⟨w.heap.size, 1, none⟩ = some (.int .i64 n0) := (hb7.cell (p := ⟨w.heap.size, 1, none⟩) (by first | assumption | (simp; done) | (simp; omega) | omega)).trans (by first | assumption | (go_simp; done) | (simp [*]; done))
  have r7x2 : w7.cell? ⟨w.heap.size, 2, none⟩ = some (.string s0) := (hb7.cell (p := ⟨w.heap.size, 2, none⟩) (by first | assumption | (simp; done) | (simp; omega) | omega)).trans (by first | assumption | (go_simp; done) | (simp [*]; done))
  have L7y : w.heap.size + 1 < w7.heap.size := Nat.lt_of_lt_of_le (by first | assumption | (simp; done) | (simp; omega) | omega : w.heap.size + 1 < _) hb7.size
  have r7y0 : w7.cell? ⟨w.heap.size + 1, 0, none⟩ = some (.int .u8 k1) := (hb7.cell (p := ⟨w.heap.size + 1, 0, none⟩) (by first | assumption | (simp; done) | (simp; omega) | omega)).trans (by first | assumption | (go_simp; done) | (simp [*]; done))
  have r7y1 : w7.cell? ⟨w.heap.size + 1, 1, none⟩ = some (.int .i64 n1) := (hb7.cell (p := ⟨w.heap.size + 1, 1, none⟩) (by first | assumption | (simp; done) | (simp; omega) | omega)).trans (by first | assumption | (go_simp; done) | (simp [*]; done))
  have r7y2 : w7.cell? ⟨w.heap.size + 1, 2, none⟩ = some (.string s1) := (hb7.cell (p := ⟨w.heap.size + 1, 2, none⟩) (by first | assumption | (simp; done) | (simp; omega) | omega)).trans (by first | assumption | (go_simp; done) | (simp [*]; done))
  have L7z1 : w1.heap.size < w7.heap.size := Nat.lt_of_lt_of_le (by first | assumption | (simp; done) | (simp; omega) | omega : w1.heap.size < _) hb7.size
  have r7z10 : w7.cell? ⟨w1.heap.size, 0, none⟩ = some (.int .u8 a0) := (hb7.cell (p := ⟨w1.heap.size, 0, none⟩) (by first | assumption | (simp; done) | (simp; omega) | omega)).trans (by first | assumption | (go_simp; done) | (simp [*]; done))
  have r7z11 : w7.cell? ⟨w1.heap.size, 1, none⟩ = some (.int .i64 a1) := (hb7.cell (p := ⟨w1.heap.size, 1, none⟩) (by first | assumption | (simp; done) | (simp; omega) | omega)).trans (by first | assumption | (go_simp; done) | (simp [*]; done))
  have r7z12 : w7.cell? ⟨w1.heap.size, 2, none⟩ = some (.string a2) := (hb7.cell (p := ⟨w1.heap.size, 2, none⟩) (by first | assumption | (simp; done) | (simp; omega) | omega)).trans (by first | assumption | (go_simp; done) | (simp [*]; done))
  have L7z2 : w2.heap.size < w7.heap.size := Nat.lt_of_lt_of_le (by first | assumption | (simp; done) | (simp; omega) | omega : w2.heap.size < _) hb7.size
  have r7z20 : w7.cell? ⟨w2.heap.size, 0, none⟩ = some (.int .u8 b0) := (hb7.cell (p := ⟨w2.heap.size, 0, none⟩) (by first | assumption | (simp; done) | (simp; omega) | omega)).trans (by first | assumption | (go_simp; done) | (simp [*]; done))
  have r7z21 : w7.cell? ⟨w2.heap.size, 1, none⟩ = some (.int .i64 b1) := (hb7.cell (p := ⟨w2.heap.size, 1, none⟩) (by first | assumption | (simp; done) | (simp; omega) | omega)).trans (by first | assumption | (go_simp; done) | (simp [*]; done))
  have r7z22 : w7.cell? ⟨w2.heap.size, 2, none⟩ = some (.string b2) := (hb7.cell (p := ⟨w2.heap.size, 2, none⟩) (by first | assumption | (simp; done) | (simp; omega) | omega)).trans (by first | assumption | (go_simp; done) | (simp [*]; done))
  have L7z3 : w3.heap.size < w7.heap.size := Nat.lt_of_lt_of_le (by first | assumption | (simp; done) | (simp; omega) | omega : w3.heap.size < _) hb7.size
  have r7z30 : w7.cell? ⟨w3.heap.size, 0, none⟩ = some (.int .u8 c0) := (hb7.cell (p := ⟨w3.heap.size, 0, none⟩) (by first | assumption | (simp; done) | (simp; omega) | omega)).trans (by first | assumption | (go_simp; done) | (simp [*]; done))
  have r7z31 : w7.cell? ⟨w3.heap.size, 1, none⟩ = some (.int .i64 c1) := (hb7.cell (p := ⟨w3.heap.size, 1, none⟩) (by first | assumption | (simp; done) | (simp; omega) | omega)).trans (by first | assumption | (go_simp; done) | (simp [*]; done))
  have r7z32 : w7.cell? ⟨w3.heap.size, 2, none⟩ = some (.string c2) := (hb7.cell (p := ⟨w3.heap.size, 2, none⟩) (by first | assumption | (simp; done) | (simp; omega) | omega)).trans (by first | assumption | (go_simp; done) | (simp [*]; done))
  have L7z4 : w4.heap.size < w7.heap.size := Nat.lt_of_lt_of_le (by first | assumption | (simp; done) | (simp; omega) | omega : w4.heap.size < _) hb7.size
  have r7z40 : w7.cell? ⟨w4.heap.size, 0, none⟩ = some (.int .u8 d0) := (hb7.cell (p := ⟨w4.heap.size, 0, none⟩) (by first | assumption | (simp; done) | (simp; omega) | omega)).trans (by first | assumption | (go_simp; done) | (simp [*]; done))
  have r7z41 : w7.cell? ⟨w4.heap.size, 1, none⟩ = some (.int .i64 d1) := (hb7.cell (p := ⟨w4.heap.size, 1, none⟩) (by first | assumption | (simp; done) | (simp; omega) | omega)).trans (by first | assumption | (go_simp; done) | (simp [*]; done))
  have r7z42 : w7.cell? ⟨w4.heap.size, 2, none⟩ = some (.string d2) := (hb7.cell (p := ⟨w4.heap.size, 2, none⟩) (by first | assumption | (simp; done) | (simp; omega) | omega)).trans (by first | assumption | (go_simp; done) | (simp [*]; done))
  have L7z5 : w5.heap.size < w7.heap.size := Nat.lt_of_lt_of_le (by first | assumption | (simp; done) | (simp; omega) | omega : w5.heap.size < _) hb7.size
  have r7z50 : w7.cell? ⟨w5.heap.size, 0, none⟩ = some (.int .u8 a0) := (hb7.cell (p := ⟨w5.heap.size, 0, none⟩) (by first | assumption | (simp; done) | (simp; omega) | omega)).trans (by first | assumption | (go_simp; done) | (simp [*]; done))
  have r7z51 : w7.cell? ⟨w5.heap.size, 1, none⟩ = some (.int .i64 a1) := (hb7.cell (p := ⟨w5.heap.size, 1, none⟩) (by first | assumption | (simp; done) | (simp; omega) | omega)).trans (by first | assumption | (go_simp; done) | (simp [*]; done))
  have r7z52 : w7.cell? ⟨w5.heap.size, 2, none⟩ = some (.string a2) := (hb7.cell (p := ⟨w5.heap.size, 2, none⟩) (by first | assumption | (simp; done) | (simp; omega) | omega)).trans (by first | assumption | (go_simp; done) | (simp [*]; done))
  have L7z6 : w6.heap.size < w7.heap.size := Nat.lt_of_lt_of_le (by first | assumption | (simp; done) | (simp; omega) | omega : w6.heap.size < _) hb7.size
  have r7z60 : w7.cell? ⟨w6.heap.size, 0, none⟩ = some (.int .u8 b0) := (hb7.cell (p := ⟨w6.heap.size, 0, none⟩) (by first | assumption | (simp; done) | (simp; omega) | omega)).trans (by first | assumption | (go_simp; done) | (simp [*]; done))
  have r7z61 : w7.cell? ⟨w6.heap.size, 1, none⟩ = some (.int .i64 b1) := (hb7.cell (p := ⟨w6.heap.size, 1, none⟩) (by first | assumption | (simp; done) | (simp; omega) | omega)).trans (by first | assumption | (go_simp; done) | (simp [*]; done))
  have r7z62 : w7.cell? ⟨w6.heap.size, 2, none⟩ = some (.string b2) := (hb7.cell (p := ⟨w6.heap.size, 2, none⟩) (by first | assumption | (simp; done) | (simp; omega) | omega)).trans (by first | assumption | (go_simp; done) | (simp [*]; done))
  have B7 := Aside0.mk (below_step (below_alloc B6.out _) hb7)
  clear hb7
  clear L6x L6y L6z1 L6z2 L6z3 L6z4 L6z5 r6x0 r6x1 r6x2 r6y0 r6y1 r6y2 r6z10 r6z11 r6z12 r6z20 r6z21 r6z22 r6z30 r6z31 r6z32 r6z40 r6z41 r6z42 r6z50 r6z51 r6z52
  go_wp2_with fail
  refine (G'.out _).mono ?_
  rintro e w8 ⟨rfl, hb8⟩
  have L8x : w.heap.size < w8.heap.size := Nat.lt_of_lt_of_le (by first | assumption | (simp; done) | (simp; omega) | omega : w.heap.size < _) hb8.size
  have r8x0 : w8.cell? ⟨w.heap.size, 0, none⟩ = some (.int .u8 k0) := (hb8.cell (p := ⟨w.heap.size, 0, none⟩) (by first | assumption | (simp; done) | (simp; omega) | omega)).trans (by first | assumption | (go_simp; done) | (simp [*]; done))
  have r8x1 : w8.cell? ⟨w.heap.size, 1, none⟩ = some (.int .i64 n0) := (hb8.cell (p := ⟨w.heap.size, 1, none⟩) (by first | assumption | (simp; done) | (simp; omega) | omega)).trans (by first | assumption | (go_simp; done) | (simp [*]; done))
  have r8x2 : w8.cell? ⟨w.heap.size, 2, none⟩ = some (.string s0) := (hb8.cell (p := ⟨w.heap.size, 2, none⟩) (by first | assumption | (simp; done) | (simp; omega) | omega)).trans (by first | assumption | (go_simp; done) | (simp [*]; done))
  have L8y : w.heap.size + 1 < w8.heap.size := Nat.lt_of_lt_of_le (by first | assumption | (simp; done) | (simp; omega) | omega : w.heap.size + 1 < _) hb8.size
  have r8y0 : w8.cell? ⟨w.heap.size + 1, 0, none⟩ = some (.int .u8 k1) := (hb8.cell (p := ⟨w.heap.size + 1, 0, none⟩) (by first | assumption | (simp; done) | (simp; omega) | omega)).trans (by first | assumption | (go_simp; done) | (simp [*]; done))
  have r8y1 : w8.cell? ⟨w.heap.size + 1, 1, none⟩ = some (.int .i64 n1) := (hb8.cell (p := ⟨w.heap.size + 1, 1, none⟩) (by first | assumption | (simp; done) | (simp; omega) | omega)).trans (by first | assumption | (go_simp; done) | (simp [*]; done))
  have r8y2 : w8.cell? ⟨w.heap.size + 1, 2, none⟩ = some (.string s1) := (hb8.cell (p := ⟨w.heap.size + 1, 2, none⟩) (by first | assumption | (simp; done) | (simp; omega) | omega)).trans (by first | assumption | (go_simp; done) | (simp [*]; done))
  have L8z1 : w1.heap.size < w8.heap.size := Nat.lt_of_lt_of_le (by first | assumption | (simp; done) | (simp; omega) | omega : w1.heap.size < _) hb8.size
  have r8z10 : w8.cell? ⟨w1.heap.size, 0, none⟩ = some (.int .u8 a0) := (hb8.cell (p := ⟨w1.heap.size, 0, none⟩) (by first | assumption | (simp; done) | (simp; omega) | omega)).trans (by first | assumption | (go_simp; done) | (simp [*]; done))
  have r8z11 : w8.cell? ⟨w1.heap.size, 1, none⟩ = some (.int .i64 a1) := (hb8.cell (p := ⟨w1.heap.size, 1, none⟩) (by first | assumption | (simp; done) | (simp; omega) | omega)).trans (by first | assumption | (go_simp; done) | (simp [*]; done))
  have r8z12 : w8.cell? ⟨w1.heap.size, 2, none⟩ = some (.string a2) := (hb8.cell (p := ⟨w1.heap.size, 2, none⟩) (by first | assumption | (simp; done) | (simp; omega) | omega)).trans (by first | assumption | (go_simp; done) | (simp [*]; done))
  have L8z2 : w2.heap.size < w8.heap.size := Nat.lt_of_lt_of_le (by first | assumption | (simp; done) | (simp; omega) | omega : w2.heap.size < _) hb8.size
  have r8z20 : w8.cell? ⟨w2.heap.size, 0, none⟩ = some (.int .u8 b0) := (hb8.cell (p := ⟨w2.heap.size, 0, none⟩) (by first | assumption | (simp; done) | (simp; omega) | omega)).trans (by first | assumption | (go_simp; done) | (simp [*]; done))
  have r8z21 : w8.cell? ⟨w2.heap.size, 1, none⟩ = some (.int .i64 b1) := (hb8.cell (p := ⟨w2.heap.size, 1, none⟩) (by first | assumption | (simp; done) | (simp; omega) | omega)).trans (by first | assumption | (go_simp; done) | (simp [*]; done))
  have r8z22 : w8.cell? ⟨w2.heap.size, 2, none⟩ = some (.string b2) := (hb8.cell (p := ⟨w2.heap.size, 2, none⟩) (by first | assumption | (simp; done) | (simp; omega) | omega)).trans (by first | assumption | (go_simp; done) | (simp [*]; done))
  have L8z3 : w3.heap.size < w8.heap.size := Nat.lt_of_lt_of_le (by first | assumption | (simp; done) | (simp; omega) | omega : w3.heap.size < _) hb8.size
  have r8z30 : w8.cell? ⟨w3.heap.size, 0, none⟩ = some (.int .u8 c0) := (hb8.cell (p := ⟨w3.heap.size, 0, none⟩) (by first | assumption | (simp; done) | (simp; omega) | omega)).trans (by first | assumption | (go_simp; done) | (simp [*]; done))
  have r8z31 : w8.cell? ⟨w3.heap.size, 1, none⟩ = some (.int .i64 c1) := (hb8.cell (p := ⟨w3.heap.size, 1, none⟩) (by first | assumption | (simp; done) | (simp; omega) | omega)).trans (by first | assumption | (go_simp; done) | (simp [*]; done))
  have r8z32 : w8.cell? ⟨w3.heap.size, 2, none⟩ = some (.string c2) := (hb8.cell (p := ⟨w3.heap.size, 2, none⟩) (by first | assumption | (simp; done) | (simp; omega) | omega)).trans (by first | assumption | (go_simp; done) | (simp [*]; done))
  have L8z4 : w4.heap.size < w8.heap.size := Nat.lt_of_lt_of_le (by first | assumption | (simp; done) | (simp; omega) | omega : w4.heap.size < _) hb8.size
  have r8z40 : w8.cell? ⟨w4.heap.size, 0, none⟩ = some (.int .u8 d0) := (hb8.cell (p := ⟨w4.heap.size, 0, none⟩) (by first | assumption | (simp; done) | (simp; omega) | omega)).trans (by first | assumption | (go_simp; done) | (simp [*]; done))
  have r8z41 : w8.cell? ⟨w4.heap.size, 1, none⟩ = some (.int .i64 d1) := (hb8.cell (p := ⟨w4.heap.size, 1, none⟩) (by first | assumption | (simp; done) | (simp; omega) | omega)).trans (by first | assumption | (go_simp; done) | (simp [*]; done))
  have r8z42 : w8.cell? ⟨w4.heap.size, 2, none⟩ = some (.string d2) := (hb8.cell (p := ⟨w4.heap.size, 2, none⟩) (by first | assumption | (simp; done) | (simp; omega) | omega)).trans (by first | assumption | (go_simp; done) | (simp [*]; done))
  have L8z5 : w5.heap.size < w8.heap.size := Nat.lt_of_lt_of_le (by first | assumption | (simp; done) | (simp; omega) | omega : w5.heap.size < _) hb8.size
  have r8z50 : w8.cell? ⟨w5.heap.size, 0, none⟩ = some (.int .u8 a0) := (hb8.cell (p := ⟨w5.heap.size, 0, none⟩) (by first | assumption | (simp; done) | (simp; omega) | omega)).trans (by first | assumption | (go_simp; done) | (simp [*]; done))
  have r8z51 : w8.cell? ⟨w5.heap.size, 1, none⟩ = some (.int .i64 a1) := (hb8.cell (p := ⟨w5.heap.size, 1, none⟩) (by first | assumption | (simp; done) | (simp; omega) | omega)).trans (by first | assumption | (go_simp; done) | (simp [*]; done))
  have r8z52 : w8.cell? ⟨w5.heap.size, 2, none⟩ = some (.string a2) := (hb8.cell (p := ⟨w5.heap.size, 2, none⟩) (by first | assumption | (simp; done) | (simp; omega) | omega)).trans (by first | assumption | (go_simp; done) | (simp [*]; done))
  have L8z6 : w6.heap.size < w8.heap.size := Nat.lt_of_lt_of_le (by first | assumption | (simp; done) | (simp; omega) | omega : w6.heap.size < _) hb8.size
  have r8z60 : w8.cell? ⟨w6.heap.size, 0, none⟩ = some (.int .u8 b0) := (hb8.cell (p := ⟨w6.heap.size, 0, none⟩) (by first | assumption | (simp; done) | (simp; omega) | omega)).trans (by first | assumption | (go_simp; done) | (simp [*]; done))
  have r8z61 : w8.cell? ⟨w6.heap.size, 1, none⟩ = some (.int .i64 b1) := (hb8.cell (p := ⟨w6.heap.size, 1, none⟩) (by first | assumption | (simp; done) | (simp; omega) | omega)).trans (by first | assumption | (go_simp; done) | (simp [*]; done))
  have r8z62 : w8.cell? ⟨w6.heap.size, 2, none⟩ = some (.string b2) := (hb8.cell (p := ⟨w6.heap.size, 2, none⟩) (by first | assumption | (simp; done) | (simp; omega) | omega)).trans (by first | assumption | (go_simp; done) | (simp [*]; done))
  have L8z7 : w7.heap.size < w8.heap.size := Nat.lt_of_lt_of_le (by first | assumption | (simp; done) | (simp; omega) | omega : w7.heap.size < _) hb8.size
  have r8z70 : w8.cell? ⟨w7.heap.size, 0, none⟩ = some (.int .u8 c0) := (hb8.cell (p := ⟨w7.heap.size, 0, none⟩) (by first | assumption | (simp; done) | (simp; omega) | omega)).trans (by first | assumption | (go_simp; done) | (simp [*]; done))
  have r8z71 : w8.cell? ⟨w7.heap.size, 1, none⟩ = some (.int .i64 c1) := (hb8.cell (p := ⟨w7.heap.size, 1, none⟩) (by first | assumption | (simp; done) | (simp; omega) | omega)).trans (by first | assumption | (go_simp; done) | (simp [*]; done))
  have r8z72 : w8.cell? ⟨w7.heap.size, 2, none⟩ = some (.string c2) := (hb8.cell (p := ⟨w7.heap.size, 2, none⟩) (by first | assumption | (simp; done) | (simp; omega) | omega)).trans (by first | assumption | (go_simp; done) | (simp [*]; done))
  have B8 := Aside0.mk (below_step (below_alloc B7.out _) hb8)
  clear hb8
  clear L7x L7y L7z1 L7z2 L7z3 L7z4 L7z5 L7z6 r7x0 r7x1 r7x2 r7y0 r7y1 r7y2 r7z10 r7z11 r7z12 r7z20 r7z21 r7z22 r7z30 r7z31 r7z32 r7z40 r7z41 r7z42 r7z50 r7z51 r7z52 r7z60 r7z61 r7z62
  go_wp2_with fail
  refine (awake_calls _ (VOK.below HG.out (below_alloc B8.out _))).mono ?_
  rintro e w9 ⟨rfl, hb9⟩
  go_wp2
  go_ret
  exact ⟨rfl, below_step (below_alloc B8.out _) hb9⟩
end Go.Proofs.YtbodlnoipkommaaDoor.Xr

/- Merged out of this session's texts: Qxf23 -/
import Derived.Test.YtbodlnoipkommaaDoorZr3
import Derived.Test.YtbodlnoipkommaaDoorZr7
import Derived.Test.YtbodlnoipkommaaDoorZr6
set_option linter.unusedVariables false
set_option linter.unusedSimpArgs false
namespace Go.Proofs.YtbodlnoipkommaaDoor.Q
open Go.Proofs.YtbodlnoipkommaaDoor.Rc
open Go.RowKit Go.Proofs.YtbodlnoipkommaaDoorW.PrintWords Go.Proofs.YtbodlnoipkommaaDoorW.PrintLast Go.Proofs.YtbodlnoipkommaaDoorW.PrintMore
attribute [local go_sem] max2_int min2_int max_two min_two max_three min_three max_four min_four
set_option linter.unusedVariables false
set_option linter.unusedSimpArgs false
mutual
def rf17_Sub.j0 : Nat → Int → Bool → Int → Int → ByteArray → Int → Int → ByteArray → Option (Int × Int × ByteArray × Int)
 | 0, _, _, _, _, _, _, _, _ => none
 | k + 1, x7, x21, x433000, x433001, x433002, x434000, x434001, x434002 => if x21 = true then (some (0, 0, (⟨#[]⟩ : ByteArray), x7)) else ((rf17_big.f x433001).bind fun bt437 => ((rf17_big.f x434001).bind fun bt443 => (if x433000 = 2 then (rf17_Sub.j1 k 2 (x434000 != 2) x433000 x433001 x433002 x434000 x434001 x434002 bt437.1 bt437.2.1 bt437.2.2.1 bt437.2.2.2.1 bt437.2.2.2.2.1 bt437.2.2.2.2.2 bt443.1 bt443.2.1 bt443.2.2.1 bt443.2.2.2.1 bt443.2.2.2.2.1 bt443.2.2.2.2.2) else (rf17_Sub.j1 k 2 true x433000 x433001 x433002 x434000 x434001 x434002 bt437.1 bt437.2.1 bt437.2.2.1 bt437.2.2.2.1 bt437.2.2.2.2.1 bt437.2.2.2.2.2 bt443.1 bt443.2.1 bt443.2.2.1 bt443.2.2.2.1 bt443.2.2.2.2.1 bt443.2.2.2.2.2))))
def rf17_Sub.j1 : Nat → Int → Bool → Int → Int → ByteArray → Int → Int → ByteArray → Bool → Int → Int → Int → Int → Int → Bool → Int → Int → Int → Int → Int → Option (Int × Int × ByteArray × Int)
 | 0, _, _, _, _, _, _, _, _, _, _, _, _, _, _, _, _, _, _, _, _ => none
 | k + 1, x10, x37, x433000, x433001, x433002, x434000, x434001, x434002, x450000, x450001, x450002, x450003, x450004, x450005, x451000, x451001, x451002, x451003, x451004, x451005 => if x37 = true then ((rf17_fixed.f x433000 x433001 x433002).bind fun bt451 => ((rf17_fixed.f x434000 x434001 x434002).bind fun bt457 => ((rf17_add.f bt451.1 bt451.2.1 bt451.2.2.1 bt451.2.2.2.1 bt451.2.2.2.2.1 bt451.2.2.2.2.2 (!bt457.1) bt457.2.1 bt457.2.2.1 bt457.2.2.2.1 bt457.2.2.2.2.1 bt457.2.2.2.2.2).bind fun bt463 => ((rf17_answer.f 3 bt463.1 bt463.2.1 bt463.2.2.1 bt463.2.2.2.1 bt463.2.2.2.2.1 bt463.2.2.2.2.2).bind fun bt469 => (some (bt469.1, bt469.2.1, bt469.2.2.1, bt469.2.2.2)))))) else ((rf17_add.f x450000 x450001 x450002 x450003 x450004 x450005 (!x451000) x451001 x451002 x451003 x451004 x451005).bind fun bt473 => ((rf17_answer.f x10 bt473.1 bt473.2.1 bt473.2.2.1 bt473.2.2.2.1 bt473.2.2.2.2.1 bt473.2.2.2.2.2).bind fun bt479 => (some (bt479.1, bt479.2.1, bt479.2.2.1, bt479.2.2.2))))
end
def rf17_Sub.f (k : Nat) (a0_0 : Int) (a0_1 : Int) (a0_2 : ByteArray) (a1_0 : Int) (a1_1 : Int) (a1_2 : ByteArray) : Option (Int × Int × ByteArray × Int) := (rf17_asked.f k a0_0 a0_1 a0_2 a1_0 a1_1 a1_2).bind fun bt435 => (if bt435.2 = 0 then (rf17_Sub.j0 k bt435.2 bt435.1 a0_0 a0_1 a0_2 a1_0 a1_1 a1_2) else (rf17_Sub.j0 k bt435.2 true a0_0 a0_1 a0_2 a1_0 a1_1 a1_2))
def rf17_Sub.T4 : Bool × List (List Nat × List Nat) := (true, [([], []), ([0], [0]), ([1], [1]), ([], []), ([3], [3]), ([4, 2], [4]), ([], []), ([], []), ([6, 2, 5, 0, 1, 2, 6, 7], [2, 6]), ([7, 5, 8, 0, 1, 2, 3, 4, 5, 6, 7, 8], [5, 7]), ([9, 0, 1, 2, 3, 4, 5, 6, 7, 8, 9], [])])
def rf17_Sub.B4 : List Nat := [0, 1, 3, 0, 8, 31, 0, 0, 255, 511, 1023]
theorem rf17_Sub.tab4 : rtab .any (opsOf Tryd.f23 4) = rf17_Sub.T4 := by kernel_rfl
theorem rf17_Sub.bits4 : waitsOk rf17_Sub.T4.2 rf17_Sub.B4 = true := by kernel_rfl
set_option maxHeartbeats 16000000 in
set_option maxRecDepth 100000 in
theorem rf17_Sub.calls (k : Nat) (a0_0 : Int) (a0_1 : Int) (a0_2 : ByteArray) (a1_0 : Int) (a1_1 : Int) (a1_2 : ByteArray) (r1 : Int) (r2 : Int) (r3 : ByteArray) (r4 : Int) (w : World) (h : rf17_Sub.f k a0_0 a0_1 a0_2 a1_0 a1_1 a1_2 = some (r1, r2, r3, r4)) :
  Calls Tryd.prog 23 #[.agg #[.int .u8 a0_0, .int .i64 a0_1, .string a0_2], .agg #[.int .u8 a1_0, .int .i64 a1_1, .string a1_2]] w fun e w' => e = .returned (.tuple #[.agg #[.int .u8 r1, .int .i64 r2, .string r3], .int .i64 r4]) ∧ Below w.heap.size w w' := by
 have hu25 := Tryd.underlying25
 have hu56 := Tryd.underlying56
 have HB := Aside0.mk (Below.refl w.heap.size w)
 have H : ((rf17_asked.f k a0_0 a0_1 a0_2 a1_0 a1_1 a1_2).bind fun bt435 => (if bt435.2 = 0 then (rf17_Sub.j0 k bt435.2 bt435.1 a0_0 a0_1 a0_2 a1_0 a1_1 a1_2) else (rf17_Sub.j0 k bt435.2 true a0_0 a0_1 a0_2 a1_0 a1_1 a1_2))) = some (r1, r2, r3, r4) := h
 clear h
 replace H := Option.bind_eq_some_iff.mp H
 obtain ⟨⟨t435, t436⟩, A30, H⟩ := H
 replace H : (if t436 = 0 then (rf17_Sub.j0 k t436 t435 a0_0 a0_1 a0_2 a1_0 a1_1 a1_2) else (rf17_Sub.j0 k t436 true a0_0 a0_1 a0_2 a1_0 a1_1 a1_2)) = some (r1, r2, r3, r4) := H
 have A3 := Aside0.mk A30
 clear A30
 have HC4 := Aside0.mk H
 clear H
 go_enter Tryd.func23, Tryd.ntmps23
 go_upto_region 2 with (first | ((with_reducible refine gate_dst (N := 2) rfl ?_); refine box_event ?hg (N := 2) ?hd (cs := #[.int .u8 a0_0, .int .i64 a0_1, .string a0_2]) (t := 25) ?hr ?_; (case hd => rfl); (case hg => rfl); (case hr => first | (go_simp; done) | (go_simp; rfl)); intro gb432 hg w5 hbox hb; have n0_ := Aside0.mk (below_step (bw HB.out) hb); have n1_ := Aside0.mk (hbox); have n2_ := Aside0.mk ((by rw [hg]; exact (below_size (bw HB.out)) : w.heap.size ≤ gb432)); have n3_ := Aside0.mk ((by rw [hg]; exact (below_size (bw HB.out)) : w.heap.size ≤ gb432)); clear HB; have HB := n0_; have BK432 := n1_; have GW432 := n2_; have GE432 := n3_; clear n0_ n1_ n2_ n3_; clear hb hbox hg) | ((with_reducible refine gate_dst (N := 3) rfl ?_); refine box_event ?hg (N := 3) ?hd (cs := #[.int .u8 a1_0, .int .i64 a1_1, .string a1_2]) (t := 25) ?hr ?_; (case hd => rfl); (case hg => rfl); (case hr => first | (go_simp; done) | (go_simp; rfl)); intro gb433 hg w6 hbox hb; have n0_ := Aside0.mk (blk_below (bk BK432.out) hb); have n1_ := Aside0.mk (below_step (by repeat (first | (with_reducible first | exact HB.out | apply below_alloc | apply pw_below_drewN | apply below_drew1 | refine below_set ?_ GE432.out) | exact HB.out)) hb); have n2_ := Aside0.mk (hbox); have n3_ := Aside0.mk ((by rw [hg]; exact (below_size (by repeat (first | (with_reducible first | exact HB.out | apply below_alloc | apply pw_below_drewN | apply below_drew1 | refine below_set ?_ GE432.out) | exact HB.out))) : w.heap.size ≤ gb433)); have n4_ := Aside0.mk ((by rw [hg]; exact (below_size (by repeat (first | (with_reducible first | exact HB.out | apply below_alloc | apply pw_below_drewN | apply below_drew1 | refine below_set ?_ GE432.out) | exact HB.out))) : w.heap.size ≤ gb433)); have n5_ := Aside0.mk ((by rw [hg]; exact Nat.ne_of_lt (blk_lt (g := gb432) (o := .cells #[.int .u8 a0_0, .int .i64 a0_1, .string a0_2] 25 (0, 0)) (bk BK432.out)) : gb432 ≠ gb433)); have n6_ := Aside0.mk ((by rw [hg]; exact Nat.ne_of_gt (blk_lt (g := gb432) (o := .cells #[.int .u8 a0_0, .int .i64 a0_1, .string a0_2] 25 (0, 0)) (bk BK432.out)) : gb433 ≠ gb432)); clear BK432; clear HB; have BK432 := n0_; have HB := n1_; have BK433 := n2_; have GW433 := n3_; have GE433 := n4_; have NB432_433 := n5_; have NB433_432 := n6_; clear n0_ n1_ n2_ n3_ n4_ n5_ n6_; clear hb hbox hg) | ((with_reducible refine gate_dst (N := 4) rfl ?_); refine box_event ?hg (N := 4) ?hd (cs := #[.int .u8 0, .int .i64 0, .string (⟨#[]⟩ : ByteArray)]) (t := 25) ?hr ?_; (case hd => rfl); (case hg => rfl); (case hr => first | (go_simp; done) | (go_simp; rfl)); intro gb434 hg w7 hbox hb; have n0_ := Aside0.mk (blk_below (bk BK432.out) hb); have n1_ := Aside0.mk (blk_below (bk BK433.out) hb); have n2_ := Aside0.mk (below_step (by repeat (first | (with_reducible first | exact HB.out | apply below_alloc | apply pw_below_drewN | apply below_drew1 | refine below_set ?_ (Aside0.out (by assumption))) | exact HB.out)) hb); have n3_ := Aside0.mk (hbox); have n4_ := Aside0.mk ((by rw [hg]; exact (below_size (by repeat (first | (with_reducible first | exact HB.out | apply below_alloc | apply pw_below_drewN | apply below_drew1 | refine below_set ?_ (Aside0.out (by assumption))) | exact HB.out))) : w.heap.size ≤ gb434)); have n5_ := Aside0.mk ((by rw [hg]; exact (below_size (by repeat (first | (with_reducible first | exact HB.out | apply below_alloc | apply pw_below_drewN | apply below_drew1 | refine below_set ?_ (Aside0.out (by assumption))) | exact HB.out))) : w.heap.size ≤ gb434)); have n6_ := Aside0.mk ((by rw [hg]; exact Nat.ne_of_lt (blk_lt (g := gb432) (o := .cells #[.int .u8 a0_0, .int .i64 a0_1, .string a0_2] 25 (0, 0)) (bk BK432.out)) : gb432 ≠ gb434)); have n7_ := Aside0.mk ((by rw [hg]; exact Nat.ne_of_gt (blk_lt (g := gb432) (o := .cells #[.int .u8 a0_0, .int .i64 a0_1, .string a0_2] 25 (0, 0)) (bk BK432.out)) : gb434 ≠ gb432)); have n8_ := Aside0.mk ((by rw [hg]; exact Nat.ne_of_lt (blk_lt (g := gb433) (o := .cells #[.int .u8 a1_0, .int .i64 a1_1, .string a1_2] 25 (0, 0)) (bk BK433.out)) : gb433 ≠ gb434)); have n9_ := Aside0.mk ((by rw [hg]; exact Nat.ne_of_gt (blk_lt (g := gb433) (o := .cells #[.int .u8 a1_0, .int .i64 a1_1, .string a1_2] 25 (0, 0)) (bk BK433.out)) : gb434 ≠ gb433)); clear BK432; clear BK433; clear HB; have BK432 := n0_; have BK433 := n1_; have HB := n2_; have BK434 := n3_; have GW434 := n4_; have GE434 := n5_; have NB432_434 := n6_; have NB434_432 := n7_; have NB433_434 := n8_; have NB434_433 := n9_; clear n0_ n1_ n2_ n3_ n4_ n5_ n6_ n7_ n8_ n9_; clear hb hbox hg; have hnb8 := NB432_433.out; have hnc8 := NB433_432.out; have hnb9 := NB432_434.out; have hnc9 := NB434_432.out; have hcz10_0 : w7.cell? ⟨gb432, 0, none⟩ = some (.int .u8 a0_0) := (blk_cell BK432.out 0).trans rfl; have hcz10_1 : w7.cell? ⟨gb432, 1, none⟩ = some (.int .i64 a0_1) := (blk_cell BK432.out 1).trans rfl; have hcz10_2 : w7.cell? ⟨gb432, 2, none⟩ = some (.string a0_2) := (blk_cell BK432.out 2).trans rfl; have hfz10_0 := blk_frozen BK432.out 0; have hfz10_1 := blk_frozen BK432.out 1; have hfz10_2 := blk_frozen BK432.out 2; have hnb11 := NB433_434.out; have hnc11 := NB434_433.out; have hcz12_0 : w7.cell? ⟨gb433, 0, none⟩ = some (.int .u8 a1_0) := (blk_cell BK433.out 0).trans rfl; have hcz12_1 : w7.cell? ⟨gb433, 1, none⟩ = some (.int .i64 a1_1) := (blk_cell BK433.out 1).trans rfl; have hcz12_2 : w7.cell? ⟨gb433, 2, none⟩ = some (.string a1_2) := (blk_cell BK433.out 2).trans rfl; have hfz12_0 := blk_frozen BK433.out 0; have hfz12_1 := blk_frozen BK433.out 1; have hfz12_2 := blk_frozen BK433.out 2) | ((with_reducible refine gate_callee (f := 64) rfl ?_); refine goesL_ (some 14) rfl rfl Tryd.func64 (by kernel_rfl) rfl #[.agg #[.int .u8 a0_0, .int .i64 a0_1, .string a0_2], .agg #[.int .u8 a1_0, .int .i64 a1_1, .string a1_2]] rfl (by (try simp only [List.map_toArray, List.map_cons, List.map_nil]); first | done | rfl | (simp only [List.length_drop, List.length_take]; rfl)) ?_; (with_reducible refine (rf17_asked.calls k a0_0 a0_1 a0_2 a1_0 a1_1 a1_2 t435 t436 _ A3.out).mono ?_); rintro e w13 ⟨rfl, hb⟩; refine ⟨_, rfl, ?_⟩; have n0_ := Aside0.mk (blk_below (bk BK432.out) hb); have n1_ := Aside0.mk (blk_below (bk BK433.out) hb); have n2_ := Aside0.mk (blk_below (bk BK434.out) hb); have n3_ := Aside0.mk (below_step (by repeat (first | (with_reducible first | exact HB.out | apply below_alloc | apply pw_below_drewN | apply below_drew1 | refine below_set ?_ (Aside0.out (by assumption))) | exact HB.out)) hb); clear BK432; clear BK433; clear BK434; clear HB; have BK432 := n0_; have BK433 := n1_; have BK434 := n2_; have HB := n3_; clear n0_ n1_ n2_ n3_; (try clear hb); (try clear hb2); (try clear hk); (try clear hi)))
 (try simp only [Act.put, List.setIfInBounds_toArray, List.set_cons_zero, List.set_cons_succ])
 go_cut [21] (fun v21 wc => ∃ (kq : Nat) (x21_3 : Bool), v21 = .bool x21_3 ∧ Aside0 (rf17_Sub.j0 kq t436 x21_3 a0_0 a0_1 a0_2 a1_0 a1_1 a1_2 = some (r1, r2, r3, r4)) ∧ Aside0 (kq ≤ k) ∧ Aside0 (wc.heap[gb432]? = some (.cells #[.int .u8 a0_0, .int .i64 a0_1, .string a0_2] 25 (0, 0))) ∧ Aside0 (wc.heap[gb433]? = some (.cells #[.int .u8 a1_0, .int .i64 a1_1, .string a1_2] 25 (0, 0))) ∧ Aside0 (wc.heap[gb434]? = some (.cells #[.int .u8 0, .int .i64 0, .string (⟨#[]⟩ : ByteArray)] 25 (0, 0))) ∧ Aside0 (Below w.heap.size w wc))
 case first =>
  have H := HC4.out
  clear HC4
  by_cases c14 : t436 = 0
  ·rw [if_pos c14] at H
   have c14b0 : (t436 == 0) = true := beq_iff_eq.mpr c14
   have c14b1 : (t436 != 0) = false := bne_eq_false_iff_eq.mpr c14
   clear c14
   (first | rw [c14b0] | (simp only [i64_w, i32_w]; rw [c14b0]) | skip)
   have H' := Aside0.mk H
   clear H
   go_wp2
   go_meet
   case rel => exact ⟨_, (t435), (by first | rfl | (simp; done) | (simp [*]; done)), H', ⟨by first | omega | exact Nat.le_refl _⟩, ⟨bk BK432.out⟩, ⟨bk BK433.out⟩, ⟨bk BK434.out⟩, ⟨by repeat (first | (with_reducible first | exact HB.out | apply below_alloc | apply pw_below_drewN | apply below_drew1 | refine below_set ?_ (Aside0.out (by assumption))) | exact HB.out)⟩⟩
  ·rw [if_neg c14] at H
   have c14b0 : (t436 == 0) = false := beq_eq_false_iff_ne.mpr c14
   have c14b1 : (t436 != 0) = true := bne_iff_ne.mpr c14
   (first | rw [c14b0] | (simp only [i64_w, i32_w]; rw [c14b0]) | skip)
   have H' := Aside0.mk H
   clear H
   go_wp2
   go_meet
   case rel => exact ⟨_, (true), (by first | rfl | (simp; done) | (simp [*]; done)), H', ⟨by first | omega | exact Nat.le_refl _⟩, ⟨bk BK432.out⟩, ⟨bk BK433.out⟩, ⟨bk BK434.out⟩, ⟨by repeat (first | (with_reducible first | exact HB.out | apply below_alloc | apply pw_below_drewN | apply below_drew1 | refine below_set ?_ (Aside0.out (by assumption))) | exact HB.out)⟩⟩
 case rest =>
  clear HC4
  try clear c1
  try clear c2
  try clear p2
  try clear c6
  try clear c8
  try clear c9
  try clear c11
  try clear c14
  try clear c14b0
  try clear c14b1
  try clear hcz10_0
  try clear hcz10_1
  try clear hcz10_2
  try clear hcz12_0
  try clear hcz12_1
  try clear hcz12_2
  try clear hfz10_0
  try clear hfz10_1
  try clear hfz10_2
  try clear hfz12_0
  try clear hfz12_1
  try clear hfz12_2
  obtain ⟨kq, x21_3, rfl, HA, HJ3, BK432, BK433, BK434, HB⟩ := hcut
  cases kq with
  | zero => exact absurd HA.out (by simp [rf17_Sub.j0])
  | succ kj3 =>
   have H := HA.out
   clear HA
   simp only [rf17_Sub.j0] at H
   by_cases c15 : x21_3 = true
   ·subst c15
    have H1 : (some (0, 0, (⟨#[]⟩ : ByteArray), t436)) = some (r1, r2, r3, r4) := by rw [if_pos rfl] at H; exact H
    clear H
    have H := H1
    clear H1
    simp only [Option.some.injEq, Prod.mk.injEq] at H
    obtain ⟨rfl, rfl, rfl, rfl⟩ := H
    have hnb16 := NB434_432.out
    have hnc16 := NB432_434.out
    have hnb17 := NB434_433.out
    have hnc17 := NB433_434.out
    have hcz18_0 : wc.cell? ⟨gb434, 0, none⟩ = some (.int .u8 0) := (blk_cell BK434.out 0).trans rfl
    have hcz18_1 : wc.cell? ⟨gb434, 1, none⟩ = some (.int .i64 0) := (blk_cell BK434.out 1).trans rfl
    have hcz18_2 : wc.cell? ⟨gb434, 2, none⟩ = some (.string (⟨#[]⟩ : ByteArray)) := (blk_cell BK434.out 2).trans rfl
    have hfz18_0 := blk_frozen BK434.out 0
    have hfz18_1 := blk_frozen BK434.out 1
    have hfz18_2 := blk_frozen BK434.out 2
    go_wp2
    refine bodyPost_ret (results_ct rfl _ _ gb434 25 #[.int .u8 0, .int .i64 0, .string (⟨#[]⟩ : ByteArray)] (0, 0) _ rfl (by (with_reducible repeat first | apply blk_drewN | apply blk_drew | apply blk_alloc); refine blk_put (cs := #[.int .u8 0, .int .i64 0, .string (⟨#[]⟩ : ByteArray)]) ?_ 2 _ rfl; (with_reducible repeat first | apply blk_drewN | apply blk_drew | apply blk_alloc); refine blk_put (cs := #[.int .u8 0, .int .i64 0, .string (⟨#[]⟩ : ByteArray)]) ?_ 1 _ rfl; (with_reducible repeat first | apply blk_drewN | apply blk_drew | apply blk_alloc); refine blk_put (cs := #[.int .u8 0, .int .i64 0, .string (⟨#[]⟩ : ByteArray)]) ?_ 0 _ rfl; (with_reducible repeat first | apply blk_drewN | apply blk_drew | apply blk_alloc); exact BK434.out) Tryd.underlying25 rfl (by kernel_rfl)) rfl ?_
    exact ⟨by first | rfl | (simp [errW_none, errW_some] <;> rfl) | (simp [*, errW_none, errW_some] <;> rfl), by repeat (first | (with_reducible first | exact HB.out | apply below_alloc | apply pw_below_drewN | apply below_drew1 | refine below_set ?_ (Aside0.out (by assumption))) | exact HB.out)⟩
   ·replace c15 := Bool.eq_false_iff.mpr c15
    subst c15
    have H1 : ((rf17_big.f a0_1).bind fun bt437 => ((rf17_big.f a1_1).bind fun bt443 => (if a0_0 = 2 then (rf17_Sub.j1 kj3 2 (a1_0 != 2) a0_0 a0_1 a0_2 a1_0 a1_1 a1_2 bt437.1 bt437.2.1 bt437.2.2.1 bt437.2.2.2.1 bt437.2.2.2.2.1 bt437.2.2.2.2.2 bt443.1 bt443.2.1 bt443.2.2.1 bt443.2.2.2.1 bt443.2.2.2.2.1 bt443.2.2.2.2.2) else (rf17_Sub.j1 kj3 2 true a0_0 a0_1 a0_2 a1_0 a1_1 a1_2 bt437.1 bt437.2.1 bt437.2.2.1 bt437.2.2.2.1 bt437.2.2.2.2.1 bt437.2.2.2.2.2 bt443.1 bt443.2.1 bt443.2.2.1 bt443.2.2.2.1 bt443.2.2.2.2.1 bt443.2.2.2.2.2)))) = some (r1, r2, r3, r4) := by rw [if_neg (show ¬ (false = true) by decide)] at H; exact H
    clear H
    have H := H1
    clear H1
    replace H := Option.bind_eq_some_iff.mp H
    obtain ⟨⟨t437, t438, t439, t440, t441, t442⟩, A190, H⟩ := H
    replace H : ((rf17_big.f a1_1).bind fun bt443 => (if a0_0 = 2 then (rf17_Sub.j1 kj3 2 (a1_0 != 2) a0_0 a0_1 a0_2 a1_0 a1_1 a1_2 t437 t438 t439 t440 t441 t442 bt443.1 bt443.2.1 bt443.2.2.1 bt443.2.2.2.1 bt443.2.2.2.2.1 bt443.2.2.2.2.2) else (rf17_Sub.j1 kj3 2 true a0_0 a0_1 a0_2 a1_0 a1_1 a1_2 t437 t438 t439 t440 t441 t442 bt443.1 bt443.2.1 bt443.2.2.1 bt443.2.2.2.1 bt443.2.2.2.2.1 bt443.2.2.2.2.2))) = some (r1, r2, r3, r4) := H
    have A19 := Aside0.mk A190
    clear A190
    replace H := Option.bind_eq_some_iff.mp H
    obtain ⟨⟨t443, t444, t445, t446, t447, t448⟩, A200, H⟩ := H
    replace H : (if a0_0 = 2 then (rf17_Sub.j1 kj3 2 (a1_0 != 2) a0_0 a0_1 a0_2 a1_0 a1_1 a1_2 t437 t438 t439 t440 t441 t442 t443 t444 t445 t446 t447 t448) else (rf17_Sub.j1 kj3 2 true a0_0 a0_1 a0_2 a1_0 a1_1 a1_2 t437 t438 t439 t440 t441 t442 t443 t444 t445 t446 t447 t448)) = some (r1, r2, r3, r4) := H
    have A20 := Aside0.mk A200
    clear A200
    have HC21 := Aside0.mk H
    clear H
    try go_wp2
    have n0_ := Aside0.mk (blk_drew BK432.out)
    have n1_ := Aside0.mk (blk_drew BK433.out)
    have n2_ := Aside0.mk (blk_drew BK434.out)
    have n3_ := Aside0.mk (below_drew1 HB.out)
    clear BK432
    clear BK433
    clear BK434
    clear HB
    have BK432 := n0_
    have BK433 := n1_
    have BK434 := n2_
    have HB := n3_
    clear n0_ n1_ n2_ n3_
    refine start_ (n := 11) (S := fun w' => w'.cell? ⟨gb432, 0, none⟩ = some (.int .u8 a0_0) ∧ w'.cell? ⟨gb432, 1, none⟩ = some (.int .i64 a0_1) ∧ w'.cell? ⟨gb432, 2, none⟩ = some (.string a0_2) ∧ w'.cell? ⟨gb433, 0, none⟩ = some (.int .u8 a1_0) ∧ w'.cell? ⟨gb433, 1, none⟩ = some (.int .i64 a1_1) ∧ w'.cell? ⟨gb433, 2, none⟩ = some (.string a1_2)) (ds := []) #[false, false, false, false, false, false, false, false, false, false, false] (by kernel_rfl) rfl rfl ⟨(blk_cell BK432.out 0).trans rfl, (blk_cell BK432.out 1).trans rfl, (blk_cell BK432.out 2).trans rfl, (blk_cell BK433.out 0).trans rfl, (blk_cell BK433.out 1).trans rfl, (blk_cell BK433.out 2).trans rfl⟩ (fun hHeld => ?_); refine with_tabW rf17_Sub.tab4 rf17_Sub.bits4 (fun HT_ HW_ => ?_)
    generalize wc.drew = w22 at BK432 BK433 BK434 HB hHeld ⊢
    refine pure_ (i := 0) (N := some 24) (v := ?_) (a' := ?_) #[true, false, false, false, false, false, false, false, false, false, false] rfl rfl (any_of HT_.out (by kernel_rfl)) (fun _ _ _ h => h) (Or.inl ⟨by rfl, ?_⟩) ?_ ?_
    rotate_left
    ·intro w'
     go_simp
     with_reducible rfl
    rotate_left
    ·simp only [Act.put, List.setIfInBounds_toArray, List.set_cons_zero, List.set_cons_succ, i64_w, i32_w]
     rfl
    refine pure_ (i := 3) (N := some 27) (v := ?_) (a' := ?_) #[true, false, false, true, false, false, false, false, false, false, false] rfl rfl (any_of HT_.out (by kernel_rfl)) (fun _ _ _ h => h) (Or.inl ⟨by rfl, ?_⟩) ?_ ?_
    rotate_left
    ·intro w'
     go_simp
     with_reducible rfl
    rotate_left
    ·simp only [Act.put, List.setIfInBounds_toArray, List.set_cons_zero, List.set_cons_succ, i64_w, i32_w]
     rfl
    refine take_ (i := 1) (N := some 25) (v := ?_) (a' := ?_) #[true, true, false, true, false, false, false, false, false, false, false] rfl rfl (take_ofW HT_.out HW_.out (by kernel_rfl)) (fun _ _ _ h => h) (Or.inl ⟨by rfl, ?_⟩) hHeld ?_ ?_
    rotate_left
    ·rintro w' ⟨s0, s1, s2, s3, s4, s5⟩
     go_simp
     with_reducible rfl
    rotate_left
    ·simp only [Act.put, List.setIfInBounds_toArray, List.set_cons_zero, List.set_cons_succ, i64_w, i32_w]
     rfl
    refine take_ (i := 4) (N := some 28) (v := ?_) (a' := ?_) #[true, true, false, true, true, false, false, false, false, false, false] rfl rfl (take_ofW HT_.out HW_.out (by kernel_rfl)) (fun _ _ _ h => h) (Or.inl ⟨by rfl, ?_⟩) hHeld ?_ ?_
    rotate_left
    ·rintro w' ⟨s0, s1, s2, s3, s4, s5⟩
     go_simp
     with_reducible rfl
    rotate_left
    ·simp only [Act.put, List.setIfInBounds_toArray, List.set_cons_zero, List.set_cons_succ, i64_w, i32_w]
     rfl
    refine join_ (σ := Nat × Nat) 3 #[true, true, true, true, true, true, true, true, false, false, false] (fun s_ => [(26, .agg #[.bool t437, .int .u64 t438, .int .u64 t439, .int .u64 t440, .int .u64 t441, .int .u64 t442]), (29, .agg #[.bool t443, .int .u64 t444, .int .u64 t445, .int .u64 t446, .int .u64 t447, .int .u64 t448]), (8, .pointer (some ⟨s_.1, 0, none⟩)), (9, .pointer (some ⟨s_.2, 0, none⟩))]) (fun s_ w' => (w'.cell? ⟨gb432, 0, none⟩ = some (.int .u8 a0_0) ∧ w'.cell? ⟨gb432, 1, none⟩ = some (.int .i64 a0_1) ∧ w'.cell? ⟨gb432, 2, none⟩ = some (.string a0_2) ∧ w'.cell? ⟨gb433, 0, none⟩ = some (.int .u8 a1_0) ∧ w'.cell? ⟨gb433, 1, none⟩ = some (.int .i64 a1_1) ∧ w'.cell? ⟨gb433, 2, none⟩ = some (.string a1_2)) ∧ (w'.heap[gb432]? = some (.cells #[.int .u8 a0_0, .int .i64 a0_1, .string a0_2] 25 (0, 0))) ∧ (w'.heap[gb433]? = some (.cells #[.int .u8 a1_0, .int .i64 a1_1, .string a1_2] 25 (0, 0))) ∧ (w'.heap[gb434]? = some (.cells #[.int .u8 0, .int .i64 0, .string (⟨#[]⟩ : ByteArray)] 25 (0, 0))) ∧ (w'.heap[s_.1]? = some (.cells #[.bool false, .int .u64 0, .int .u64 0, .int .u64 0, .int .u64 0, .int .u64 0] 56 (0, 0))) ∧ (w'.heap[s_.2]? = some (.cells #[.bool false, .int .u64 0, .int .u64 0, .int .u64 0, .int .u64 0, .int .u64 0] 56 (0, 0))) ∧ (w.heap.size ≤ s_.1) ∧ (w.heap.size ≤ s_.1) ∧ (gb432 ≠ s_.1) ∧ (s_.1 ≠ gb432) ∧ (gb433 ≠ s_.1) ∧ (s_.1 ≠ gb433) ∧ (gb434 ≠ s_.1) ∧ (s_.1 ≠ gb434) ∧ (s_.2 ≠ s_.1) ∧ (s_.1 ≠ s_.2) ∧ (w.heap.size ≤ s_.2) ∧ (w.heap.size ≤ s_.2) ∧ (gb432 ≠ s_.2) ∧ (s_.2 ≠ gb432) ∧ (gb433 ≠ s_.2) ∧ (s_.2 ≠ gb433) ∧ (gb434 ≠ s_.2) ∧ (s_.2 ≠ gb434) ∧ (Below w.heap.size w w')) ?_ ?_
    rotate_left
    ·intro hJ2_5_6_7
     refine join_ (σ := Nat) 4 #[true, true, true, true, true, true, true, false, false, false, false] (fun s_ => [(26, .agg #[.bool t437, .int .u64 t438, .int .u64 t439, .int .u64 t440, .int .u64 t441, .int .u64 t442]), (29, .agg #[.bool t443, .int .u64 t444, .int .u64 t445, .int .u64 t446, .int .u64 t447, .int .u64 t448]), (8, .pointer (some ⟨s_, 0, none⟩))]) (fun s_ w' => (w'.cell? ⟨gb432, 0, none⟩ = some (.int .u8 a0_0) ∧ w'.cell? ⟨gb432, 1, none⟩ = some (.int .i64 a0_1) ∧ w'.cell? ⟨gb432, 2, none⟩ = some (.string a0_2) ∧ w'.cell? ⟨gb433, 0, none⟩ = some (.int .u8 a1_0) ∧ w'.cell? ⟨gb433, 1, none⟩ = some (.int .i64 a1_1) ∧ w'.cell? ⟨gb433, 2, none⟩ = some (.string a1_2)) ∧ (w'.heap[gb432]? = some (.cells #[.int .u8 a0_0, .int .i64 a0_1, .string a0_2] 25 (0, 0))) ∧ (w'.heap[gb433]? = some (.cells #[.int .u8 a1_0, .int .i64 a1_1, .string a1_2] 25 (0, 0))) ∧ (w'.heap[gb434]? = some (.cells #[.int .u8 0, .int .i64 0, .string (⟨#[]⟩ : ByteArray)] 25 (0, 0))) ∧ (w'.heap[s_]? = some (.cells #[.bool false, .int .u64 0, .int .u64 0, .int .u64 0, .int .u64 0, .int .u64 0] 56 (0, 0))) ∧ (w.heap.size ≤ s_) ∧ (w.heap.size ≤ s_) ∧ (gb432 ≠ s_) ∧ (s_ ≠ gb432) ∧ (gb433 ≠ s_) ∧ (s_ ≠ gb433) ∧ (gb434 ≠ s_) ∧ (s_ ≠ gb434) ∧ (Below w.heap.size w w')) ?_ ?_
     rotate_left
     ·intro hJ2_5_6
      refine join_ (σ := Nat) 4 #[true, true, true, true, true, true, false, true, false, false, false] (fun s_ => [(26, .agg #[.bool t437, .int .u64 t438, .int .u64 t439, .int .u64 t440, .int .u64 t441, .int .u64 t442]), (29, .agg #[.bool t443, .int .u64 t444, .int .u64 t445, .int .u64 t446, .int .u64 t447, .int .u64 t448]), (9, .pointer (some ⟨s_, 0, none⟩))]) (fun s_ w' => (w'.cell? ⟨gb432, 0, none⟩ = some (.int .u8 a0_0) ∧ w'.cell? ⟨gb432, 1, none⟩ = some (.int .i64 a0_1) ∧ w'.cell? ⟨gb432, 2, none⟩ = some (.string a0_2) ∧ w'.cell? ⟨gb433, 0, none⟩ = some (.int .u8 a1_0) ∧ w'.cell? ⟨gb433, 1, none⟩ = some (.int .i64 a1_1) ∧ w'.cell? ⟨gb433, 2, none⟩ = some (.string a1_2)) ∧ (w'.heap[gb432]? = some (.cells #[.int .u8 a0_0, .int .i64 a0_1, .string a0_2] 25 (0, 0))) ∧ (w'.heap[gb433]? = some (.cells #[.int .u8 a1_0, .int .i64 a1_1, .string a1_2] 25 (0, 0))) ∧ (w'.heap[gb434]? = some (.cells #[.int .u8 0, .int .i64 0, .string (⟨#[]⟩ : ByteArray)] 25 (0, 0))) ∧ (w'.heap[s_]? = some (.cells #[.bool false, .int .u64 0, .int .u64 0, .int .u64 0, .int .u64 0, .int .u64 0] 56 (0, 0))) ∧ (w.heap.size ≤ s_) ∧ (w.heap.size ≤ s_) ∧ (gb432 ≠ s_) ∧ (s_ ≠ gb432) ∧ (gb433 ≠ s_) ∧ (s_ ≠ gb433) ∧ (gb434 ≠ s_) ∧ (s_ ≠ gb434) ∧ (Below w.heap.size w w')) ?_ ?_
      rotate_left
      ·intro hJ2_5_7
       refine join_ (σ := Nat × Nat) 4 #[true, true, true, true, true, false, true, true, false, false, false] (fun s_ => [(26, .agg #[.bool t437, .int .u64 t438, .int .u64 t439, .int .u64 t440, .int .u64 t441, .int .u64 t442]), (8, .pointer (some ⟨s_.1, 0, none⟩)), (9, .pointer (some ⟨s_.2, 0, none⟩))]) (fun s_ w' => (w'.cell? ⟨gb432, 0, none⟩ = some (.int .u8 a0_0) ∧ w'.cell? ⟨gb432, 1, none⟩ = some (.int .i64 a0_1) ∧ w'.cell? ⟨gb432, 2, none⟩ = some (.string a0_2) ∧ w'.cell? ⟨gb433, 0, none⟩ = some (.int .u8 a1_0) ∧ w'.cell? ⟨gb433, 1, none⟩ = some (.int .i64 a1_1) ∧ w'.cell? ⟨gb433, 2, none⟩ = some (.string a1_2)) ∧ (w'.heap[gb432]? = some (.cells #[.int .u8 a0_0, .int .i64 a0_1, .string a0_2] 25 (0, 0))) ∧ (w'.heap[gb433]? = some (.cells #[.int .u8 a1_0, .int .i64 a1_1, .string a1_2] 25 (0, 0))) ∧ (w'.heap[gb434]? = some (.cells #[.int .u8 0, .int .i64 0, .string (⟨#[]⟩ : ByteArray)] 25 (0, 0))) ∧ (w'.heap[s_.1]? = some (.cells #[.bool false, .int .u64 0, .int .u64 0, .int .u64 0, .int .u64 0, .int .u64 0] 56 (0, 0))) ∧ (w'.heap[s_.2]? = some (.cells #[.bool false, .int .u64 0, .int .u64 0, .int .u64 0, .int .u64 0, .int .u64 0] 56 (0, 0))) ∧ (w.heap.size ≤ s_.1) ∧ (w.heap.size ≤ s_.1) ∧ (gb432 ≠ s_.1) ∧ (s_.1 ≠ gb432) ∧ (gb433 ≠ s_.1) ∧ (s_.1 ≠ gb433) ∧ (gb434 ≠ s_.1) ∧ (s_.1 ≠ gb434) ∧ (s_.2 ≠ s_.1) ∧ (s_.1 ≠ s_.2) ∧ (w.heap.size ≤ s_.2) ∧ (w.heap.size ≤ s_.2) ∧ (gb432 ≠ s_.2) ∧ (s_.2 ≠ gb432) ∧ (gb433 ≠ s_.2) ∧ (s_.2 ≠ gb433) ∧ (gb434 ≠ s_.2) ∧ (s_.2 ≠ gb434) ∧ (Below w.heap.size w w')) ?_ ?_
       rotate_left
       ·intro hJ2_6_7
        refine join_ (σ := Unit) 5 #[true, true, true, true, true, true, false, false, false, false, false] (fun s_ => [(26, .agg #[.bool t437, .int .u64 t438, .int .u64 t439, .int .u64 t440, .int .u64 t441, .int .u64 t442]), (29, .agg #[.bool t443, .int .u64 t444, .int .u64 t445, .int .u64 t446, .int .u64 t447, .int .u64 t448])]) (fun s_ w' => (w'.cell? ⟨gb432, 0, none⟩ = some (.int .u8 a0_0) ∧ w'.cell? ⟨gb432, 1, none⟩ = some (.int .i64 a0_1) ∧ w'.cell? ⟨gb432, 2, none⟩ = some (.string a0_2) ∧ w'.cell? ⟨gb433, 0, none⟩ = some (.int .u8 a1_0) ∧ w'.cell? ⟨gb433, 1, none⟩ = some (.int .i64 a1_1) ∧ w'.cell? ⟨gb433, 2, none⟩ = some (.string a1_2)) ∧ (w'.heap[gb432]? = some (.cells #[.int .u8 a0_0, .int .i64 a0_1, .string a0_2] 25 (0, 0))) ∧ (w'.heap[gb433]? = some (.cells #[.int .u8 a1_0, .int .i64 a1_1, .string a1_2] 25 (0, 0))) ∧ (w'.heap[gb434]? = some (.cells #[.int .u8 0, .int .i64 0, .string (⟨#[]⟩ : ByteArray)] 25 (0, 0))) ∧ (Below w.heap.size w w')) ?_ ?_
        rotate_left
        ·intro hJ2_5
         refine join_ (σ := Nat) 5 #[true, true, true, true, true, false, true, false, false, false, false] (fun s_ => [(26, .agg #[.bool t437, .int .u64 t438, .int .u64 t439, .int .u64 t440, .int .u64 t441, .int .u64 t442]), (8, .pointer (some ⟨s_, 0, none⟩))]) (fun s_ w' => (w'.cell? ⟨gb432, 0, none⟩ = some (.int .u8 a0_0) ∧ w'.cell? ⟨gb432, 1, none⟩ = some (.int .i64 a0_1) ∧ w'.cell? ⟨gb432, 2, none⟩ = some (.string a0_2) ∧ w'.cell? ⟨gb433, 0, none⟩ = some (.int .u8 a1_0) ∧ w'.cell? ⟨gb433, 1, none⟩ = some (.int .i64 a1_1) ∧ w'.cell? ⟨gb433, 2, none⟩ = some (.string a1_2)) ∧ (w'.heap[gb432]? = some (.cells #[.int .u8 a0_0, .int .i64 a0_1, .string a0_2] 25 (0, 0))) ∧ (w'.heap[gb433]? = some (.cells #[.int .u8 a1_0, .int .i64 a1_1, .string a1_2] 25 (0, 0))) ∧ (w'.heap[gb434]? = some (.cells #[.int .u8 0, .int .i64 0, .string (⟨#[]⟩ : ByteArray)] 25 (0, 0))) ∧ (w'.heap[s_]? = some (.cells #[.bool false, .int .u64 0, .int .u64 0, .int .u64 0, .int .u64 0, .int .u64 0] 56 (0, 0))) ∧ (w.heap.size ≤ s_) ∧ (w.heap.size ≤ s_) ∧ (gb432 ≠ s_) ∧ (s_ ≠ gb432) ∧ (gb433 ≠ s_) ∧ (s_ ≠ gb433) ∧ (gb434 ≠ s_) ∧ (s_ ≠ gb434) ∧ (Below w.heap.size w w')) ?_ ?_
         rotate_left
         ·intro hJ2_6
          refine join_ (σ := Nat) 5 #[true, true, true, true, true, false, false, true, false, false, false] (fun s_ => [(26, .agg #[.bool t437, .int .u64 t438, .int .u64 t439, .int .u64 t440, .int .u64 t441, .int .u64 t442]), (9, .pointer (some ⟨s_, 0, none⟩))]) (fun s_ w' => (w'.cell? ⟨gb432, 0, none⟩ = some (.int .u8 a0_0) ∧ w'.cell? ⟨gb432, 1, none⟩ = some (.int .i64 a0_1) ∧ w'.cell? ⟨gb432, 2, none⟩ = some (.string a0_2) ∧ w'.cell? ⟨gb433, 0, none⟩ = some (.int .u8 a1_0) ∧ w'.cell? ⟨gb433, 1, none⟩ = some (.int .i64 a1_1) ∧ w'.cell? ⟨gb433, 2, none⟩ = some (.string a1_2)) ∧ (w'.heap[gb432]? = some (.cells #[.int .u8 a0_0, .int .i64 a0_1, .string a0_2] 25 (0, 0))) ∧ (w'.heap[gb433]? = some (.cells #[.int .u8 a1_0, .int .i64 a1_1, .string a1_2] 25 (0, 0))) ∧ (w'.heap[gb434]? = some (.cells #[.int .u8 0, .int .i64 0, .string (⟨#[]⟩ : ByteArray)] 25 (0, 0))) ∧ (w'.heap[s_]? = some (.cells #[.bool false, .int .u64 0, .int .u64 0, .int .u64 0, .int .u64 0, .int .u64 0] 56 (0, 0))) ∧ (w.heap.size ≤ s_) ∧ (w.heap.size ≤ s_) ∧ (gb432 ≠ s_) ∧ (s_ ≠ gb432) ∧ (gb433 ≠ s_) ∧ (s_ ≠ gb433) ∧ (gb434 ≠ s_) ∧ (s_ ≠ gb434) ∧ (Below w.heap.size w w')) ?_ ?_
          rotate_left
          ·intro hJ2_7
           refine join_ (σ := Nat × Nat) 5 #[true, true, false, true, true, false, true, true, false, false, false] (fun s_ => [(8, .pointer (some ⟨s_.1, 0, none⟩)), (9, .pointer (some ⟨s_.2, 0, none⟩))]) (fun s_ w' => (w'.cell? ⟨gb432, 0, none⟩ = some (.int .u8 a0_0) ∧ w'.cell? ⟨gb432, 1, none⟩ = some (.int .i64 a0_1) ∧ w'.cell? ⟨gb432, 2, none⟩ = some (.string a0_2) ∧ w'.cell? ⟨gb433, 0, none⟩ = some (.int .u8 a1_0) ∧ w'.cell? ⟨gb433, 1, none⟩ = some (.int .i64 a1_1) ∧ w'.cell? ⟨gb433, 2, none⟩ = some (.string a1_2)) ∧ (w'.heap[gb432]? = some (.cells #[.int .u8 a0_0, .int .i64 a0_1, .string a0_2] 25 (0, 0))) ∧ (w'.heap[gb433]? = some (.cells #[.int .u8 a1_0, .int .i64 a1_1, .string a1_2] 25 (0, 0))) ∧ (w'.heap[gb434]? = some (.cells #[.int .u8 0, .int .i64 0, .string (⟨#[]⟩ : ByteArray)] 25 (0, 0))) ∧ (w'.heap[s_.1]? = some (.cells #[.bool false, .int .u64 0, .int .u64 0, .int .u64 0, .int .u64 0, .int .u64 0] 56 (0, 0))) ∧ (w'.heap[s_.2]? = some (.cells #[.bool false, .int .u64 0, .int .u64 0, .int .u64 0, .int .u64 0, .int .u64 0] 56 (0, 0))) ∧ (w.heap.size ≤ s_.1) ∧ (w.heap.size ≤ s_.1) ∧ (gb432 ≠ s_.1) ∧ (s_.1 ≠ gb432) ∧ (gb433 ≠ s_.1) ∧ (s_.1 ≠ gb433) ∧ (gb434 ≠ s_.1) ∧ (s_.1 ≠ gb434) ∧ (s_.2 ≠ s_.1) ∧ (s_.1 ≠ s_.2) ∧ (w.heap.size ≤ s_.2) ∧ (w.heap.size ≤ s_.2) ∧ (gb432 ≠ s_.2) ∧ (s_.2 ≠ gb432) ∧ (gb433 ≠ s_.2) ∧ (s_.2 ≠ gb433) ∧ (gb434 ≠ s_.2) ∧ (s_.2 ≠ gb434) ∧ (Below w.heap.size w w')) ?_ ?_
           rotate_left
           ·intro hJ6_7
            refine join_ (σ := Unit) 6 #[true, true, true, true, true, false, false, false, false, false, false] (fun s_ => [(26, .agg #[.bool t437, .int .u64 t438, .int .u64 t439, .int .u64 t440, .int .u64 t441, .int .u64 t442])]) (fun s_ w' => (w'.cell? ⟨gb432, 0, none⟩ = some (.int .u8 a0_0) ∧ w'.cell? ⟨gb432, 1, none⟩ = some (.int .i64 a0_1) ∧ w'.cell? ⟨gb432, 2, none⟩ = some (.string a0_2) ∧ w'.cell? ⟨gb433, 0, none⟩ = some (.int .u8 a1_0) ∧ w'.cell? ⟨gb433, 1, none⟩ = some (.int .i64 a1_1) ∧ w'.cell? ⟨gb433, 2, none⟩ = some (.string a1_2)) ∧ (w'.heap[gb432]? = some (.cells #[.int .u8 a0_0, .int .i64 a0_1, .string a0_2] 25 (0, 0))) ∧ (w'.heap[gb433]? = some (.cells #[.int .u8 a1_0, .int .i64 a1_1, .string a1_2] 25 (0, 0))) ∧ (w'.heap[gb434]? = some (.cells #[.int .u8 0, .int .i64 0, .string (⟨#[]⟩ : ByteArray)] 25 (0, 0))) ∧ (Below w.heap.size w w')) ?_ ?_
            rotate_left
            ·intro hJ2
             refine join_ (σ := Nat) 6 #[true, true, false, true, true, false, true, false, false, false, false] (fun s_ => [(8, .pointer (some ⟨s_, 0, none⟩))]) (fun s_ w' => (w'.cell? ⟨gb432, 0, none⟩ = some (.int .u8 a0_0) ∧ w'.cell? ⟨gb432, 1, none⟩ = some (.int .i64 a0_1) ∧ w'.cell? ⟨gb432, 2, none⟩ = some (.string a0_2) ∧ w'.cell? ⟨gb433, 0, none⟩ = some (.int .u8 a1_0) ∧ w'.cell? ⟨gb433, 1, none⟩ = some (.int .i64 a1_1) ∧ w'.cell? ⟨gb433, 2, none⟩ = some (.string a1_2)) ∧ (w'.heap[gb432]? = some (.cells #[.int .u8 a0_0, .int .i64 a0_1, .string a0_2] 25 (0, 0))) ∧ (w'.heap[gb433]? = some (.cells #[.int .u8 a1_0, .int .i64 a1_1, .string a1_2] 25 (0, 0))) ∧ (w'.heap[gb434]? = some (.cells #[.int .u8 0, .int .i64 0, .string (⟨#[]⟩ : ByteArray)] 25 (0, 0))) ∧ (w'.heap[s_]? = some (.cells #[.bool false, .int .u64 0, .int .u64 0, .int .u64 0, .int .u64 0, .int .u64 0] 56 (0, 0))) ∧ (w.heap.size ≤ s_) ∧ (w.heap.size ≤ s_) ∧ (gb432 ≠ s_) ∧ (s_ ≠ gb432) ∧ (gb433 ≠ s_) ∧ (s_ ≠ gb433) ∧ (gb434 ≠ s_) ∧ (s_ ≠ gb434) ∧ (Below w.heap.size w w')) ?_ ?_
             rotate_left
             ·intro hJ6
              refine join_ (σ := Nat) 6 #[true, true, false, true, true, false, false, true, false, false, false] (fun s_ => [(9, .pointer (some ⟨s_, 0, none⟩))]) (fun s_ w' => (w'.cell? ⟨gb432, 0, none⟩ = some (.int .u8 a0_0) ∧ w'.cell? ⟨gb432, 1, none⟩ = some (.int .i64 a0_1) ∧ w'.cell? ⟨gb432, 2, none⟩ = some (.string a0_2) ∧ w'.cell? ⟨gb433, 0, none⟩ = some (.int .u8 a1_0) ∧ w'.cell? ⟨gb433, 1, none⟩ = some (.int .i64 a1_1) ∧ w'.cell? ⟨gb433, 2, none⟩ = some (.string a1_2)) ∧ (w'.heap[gb432]? = some (.cells #[.int .u8 a0_0, .int .i64 a0_1, .string a0_2] 25 (0, 0))) ∧ (w'.heap[gb433]? = some (.cells #[.int .u8 a1_0, .int .i64 a1_1, .string a1_2] 25 (0, 0))) ∧ (w'.heap[gb434]? = some (.cells #[.int .u8 0, .int .i64 0, .string (⟨#[]⟩ : ByteArray)] 25 (0, 0))) ∧ (w'.heap[s_]? = some (.cells #[.bool false, .int .u64 0, .int .u64 0, .int .u64 0, .int .u64 0, .int .u64 0] 56 (0, 0))) ∧ (w.heap.size ≤ s_) ∧ (w.heap.size ≤ s_) ∧ (gb432 ≠ s_) ∧ (s_ ≠ gb432) ∧ (gb433 ≠ s_) ∧ (s_ ≠ gb433) ∧ (gb434 ≠ s_) ∧ (s_ ≠ gb434) ∧ (Below w.heap.size w w')) ?_ ?_
              rotate_left
              ·intro hJ7
               refine three_ (i := 2) (j := 6) (k := 7) (Ni := some 26) (Nj := some 8) (Nk := some 9) #[true, true, true, true, true, false, false, false, false, false, false] #[true, true, false, true, true, false, true, false, false, false, false] #[true, true, false, true, true, false, false, true, false, false, false] rfl rfl rfl rfl rfl rfl (three_of HT_.out (by kernel_rfl)) (by decide) (by decide) (by decide) (fun K hK => ?_) (fun K hK => ?_) (fun K hK => ?_)
               ·skip
                refine goes_ Tryd.func66 (by kernel_rfl) rfl #[.int .i64 a0_1] (by rfl) rfl rfl (by (try simp only [List.map_toArray, List.map_cons, List.map_nil]); first | done | rfl | (simp only [List.length_drop, List.length_take]; rfl)) ?_
                with_reducible refine (rf17_big.calls a0_1 t437 t438 t439 t440 t441 t442 _ A19.out).mono ?_
                rintro e w23 ⟨rfl, hb⟩
                refine ⟨_, rfl, ?_⟩
                have n0_ := Aside0.mk (blk_below (bk BK432.out) hb)
                have n1_ := Aside0.mk (blk_below (bk BK433.out) hb)
                have n2_ := Aside0.mk (blk_below (bk BK434.out) hb)
                have n3_ := Aside0.mk (below_step (by repeat (first | (with_reducible first | exact HB.out | apply below_alloc | apply pw_below_drewN | apply below_drew1 | refine below_set ?_ (Aside0.out (by assumption))) | exact HB.out)) hb)
                clear BK432
                clear BK433
                clear BK434
                clear HB
                have BK432 := n0_
                have BK433 := n1_
                have BK434 := n2_
                have HB := n3_
                clear n0_ n1_ n2_ n3_
                (try clear hb)
                (try clear hb2)
                (try clear hk)
                (try clear hi)
                refine hK.out _ _ ⟨(blk_cell BK432.out 0).trans rfl, (blk_cell BK432.out 1).trans rfl, (blk_cell BK432.out 2).trans rfl, (blk_cell BK433.out 0).trans rfl, (blk_cell BK433.out 1).trans rfl, (blk_cell BK433.out 2).trans rfl⟩ (fun hHeld => ?_)
                clear hK K
                refine norm_ (a' := ?_) ?_ ?_
                rotate_left
                ·show Act.put _ (some 26) _ = _
                 simp only [Act.put, List.setIfInBounds_toArray, List.set_cons_zero, List.set_cons_succ, i64_w, i32_w]
                 rfl
                exact norm_ (by first | (simp only [putAll, Act.put, List.setIfInBounds_toArray, List.set_cons_zero, List.set_cons_succ]; done) | (simp only [putAll, Act.put, List.setIfInBounds_toArray, List.set_cons_zero, List.set_cons_succ]; rfl)) (hJ2 () _ ⟨hHeld, (bk BK432.out), (bk BK433.out), (bk BK434.out), (by repeat (first | (with_reducible first | exact HB.out | apply below_alloc | apply pw_below_drewN | apply below_drew1 | refine below_set ?_ (Aside0.out (by assumption))) | exact HB.out))⟩)
               ·skip
                refine box_step ?hg (N := 8) ?hd (cs := #[.bool false, .int .u64 0, .int .u64 0, .int .u64 0, .int .u64 0, .int .u64 0]) (t := 56) ?hr ?_; (case hd => rfl); (case hg => rfl); (case hr => first | (go_simp; done) | (go_simp; rfl))
                intro gb449 hg w23 hbox hb
                have n0_ := Aside0.mk (blk_below (bk BK432.out) hb)
                have n1_ := Aside0.mk (blk_below (bk BK433.out) hb)
                have n2_ := Aside0.mk (blk_below (bk BK434.out) hb)
                have n3_ := Aside0.mk (below_step (by repeat (first | (with_reducible first | exact HB.out | apply below_alloc | apply pw_below_drewN | apply below_drew1 | refine below_set ?_ (Aside0.out (by assumption))) | exact HB.out)) hb)
                have n4_ := Aside0.mk (hbox)
                have n5_ := Aside0.mk ((by rw [hg]; exact (below_size (by repeat (first | (with_reducible first | exact HB.out | apply below_alloc | apply pw_below_drewN | apply below_drew1 | refine below_set ?_ (Aside0.out (by assumption))) | exact HB.out))) : w.heap.size ≤ gb449))
                have n6_ := Aside0.mk ((by rw [hg]; exact (below_size (by repeat (first | (with_reducible first | exact HB.out | apply below_alloc | apply pw_below_drewN | apply below_drew1 | refine below_set ?_ (Aside0.out (by assumption))) | exact HB.out))) : w.heap.size ≤ gb449))
                have n7_ := Aside0.mk ((by rw [hg]; exact Nat.ne_of_lt (blk_lt (g := gb432) (o := .cells #[.int .u8 a0_0, .int .i64 a0_1, .string a0_2] 25 (0, 0)) (bk BK432.out)) : gb432 ≠ gb449))
                have n8_ := Aside0.mk ((by rw [hg]; exact Nat.ne_of_gt (blk_lt (g := gb432) (o := .cells #[.int .u8 a0_0, .int .i64 a0_1, .string a0_2] 25 (0, 0)) (bk BK432.out)) : gb449 ≠ gb432))
                have n9_ := Aside0.mk ((by rw [hg]; exact Nat.ne_of_lt (blk_lt (g := gb433) (o := .cells #[.int .u8 a1_0, .int .i64 a1_1, .string a1_2] 25 (0, 0)) (bk BK433.out)) : gb433 ≠ gb449))
                have n10_ := Aside0.mk ((by rw [hg]; exact Nat.ne_of_gt (blk_lt (g := gb433) (o := .cells #[.int .u8 a1_0, .int .i64 a1_1, .string a1_2] 25 (0, 0)) (bk BK433.out)) : gb449 ≠ gb433))
                have n11_ := Aside0.mk ((by rw [hg]; exact Nat.ne_of_lt (blk_lt (g := gb434) (o := .cells #[.int .u8 0, .int .i64 0, .string (⟨#[]⟩ : ByteArray)] 25 (0, 0)) (bk BK434.out)) : gb434 ≠ gb449))
                have n12_ := Aside0.mk ((by rw [hg]; exact Nat.ne_of_gt (blk_lt (g := gb434) (o := .cells #[.int .u8 0, .int .i64 0, .string (⟨#[]⟩ : ByteArray)] 25 (0, 0)) (bk BK434.out)) : gb449 ≠ gb434))
                clear BK432
                clear BK433
                clear BK434
                clear HB
                have BK432 := n0_
                have BK433 := n1_
                have BK434 := n2_
                have HB := n3_
                have BK449 := n4_
                have GW449 := n5_
                have GE449 := n6_
                have NB432_449 := n7_
                have NB449_432 := n8_
                have NB433_449 := n9_
                have NB449_433 := n10_
                have NB434_449 := n11_
                have NB449_434 := n12_
                clear n0_ n1_ n2_ n3_ n4_ n5_ n6_ n7_ n8_ n9_ n10_ n11_ n12_
                clear hb hbox hg
                refine hK.out _ _ ⟨(blk_cell BK432.out 0).trans rfl, (blk_cell BK432.out 1).trans rfl, (blk_cell BK432.out 2).trans rfl, (blk_cell BK433.out 0).trans rfl, (blk_cell BK433.out 1).trans rfl, (blk_cell BK433.out 2).trans rfl⟩ (fun hHeld => ?_)
                clear hK K
                refine norm_ (a' := ?_) ?_ ?_
                rotate_left
                ·show Act.put _ (some 8) _ = _
                 simp only [Act.put, List.setIfInBounds_toArray, List.set_cons_zero, List.set_cons_succ, i64_w, i32_w]
                 rfl
                exact norm_ (by first | (simp only [putAll, Act.put, List.setIfInBounds_toArray, List.set_cons_zero, List.set_cons_succ]; done) | (simp only [putAll, Act.put, List.setIfInBounds_toArray, List.set_cons_zero, List.set_cons_succ]; rfl)) (hJ6 (gb449) _ ⟨hHeld, (bk BK432.out), (bk BK433.out), (bk BK434.out), (bk BK449.out), GW449.out, GE449.out, NB432_449.out, NB449_432.out, NB433_449.out, NB449_433.out, NB434_449.out, NB449_434.out, (by repeat (first | (with_reducible first | exact HB.out | apply below_alloc | apply pw_below_drewN | apply below_drew1 | refine below_set ?_ (Aside0.out (by assumption))) | exact HB.out))⟩)
               ·skip
                refine box_step ?hg (N := 9) ?hd (cs := #[.bool false, .int .u64 0, .int .u64 0, .int .u64 0, .int .u64 0, .int .u64 0]) (t := 56) ?hr ?_; (case hd => rfl); (case hg => rfl); (case hr => first | (go_simp; done) | (go_simp; rfl))
                intro gb450 hg w23 hbox hb
                have n0_ := Aside0.mk (blk_below (bk BK432.out) hb)
                have n1_ := Aside0.mk (blk_below (bk BK433.out) hb)
                have n2_ := Aside0.mk (blk_below (bk BK434.out) hb)
                have n3_ := Aside0.mk (below_step (by repeat (first | (with_reducible first | exact HB.out | apply below_alloc | apply pw_below_drewN | apply below_drew1 | refine below_set ?_ (Aside0.out (by assumption))) | exact HB.out)) hb)
                have n4_ := Aside0.mk (hbox)
                have n5_ := Aside0.mk ((by rw [hg]; exact (below_size (by repeat (first | (with_reducible first | exact HB.out | apply below_alloc | apply pw_below_drewN | apply below_drew1 | refine below_set ?_ (Aside0.out (by assumption))) | exact HB.out))) : w.heap.size ≤ gb450))
                have n6_ := Aside0.mk ((by rw [hg]; exact (below_size (by repeat (first | (with_reducible first | exact HB.out | apply below_alloc | apply pw_below_drewN | apply below_drew1 | refine below_set ?_ (Aside0.out (by assumption))) | exact HB.out))) : w.heap.size ≤ gb450))
                have n7_ := Aside0.mk ((by rw [hg]; exact Nat.ne_of_lt (blk_lt (g := gb432) (o := .cells #[.int .u8 a0_0, .int .i64 a0_1, .string a0_2] 25 (0, 0)) (bk BK432.out)) : gb432 ≠ gb450))
                have n8_ := Aside0.mk ((by rw [hg]; exact Nat.ne_of_gt (blk_lt (g := gb432) (o := .cells #[.int .u8 a0_0, .int .i64 a0_1, .string a0_2] 25 (0, 0)) (bk BK432.out)) : gb450 ≠ gb432))
                have n9_ := Aside0.mk ((by rw [hg]; exact Nat.ne_of_lt (blk_lt (g := gb433) (o := .cells #[.int .u8 a1_0, .int .i64 a1_1, .string a1_2] 25 (0, 0)) (bk BK433.out)) : gb433 ≠ gb450))
                have n10_ := Aside0.mk ((by rw [hg]; exact Nat.ne_of_gt (blk_lt (g := gb433) (o := .cells #[.int .u8 a1_0, .int .i64 a1_1, .string a1_2] 25 (0, 0)) (bk BK433.out)) : gb450 ≠ gb433))
                have n11_ := Aside0.mk ((by rw [hg]; exact Nat.ne_of_lt (blk_lt (g := gb434) (o := .cells #[.int .u8 0, .int .i64 0, .string (⟨#[]⟩ : ByteArray)] 25 (0, 0)) (bk BK434.out)) : gb434 ≠ gb450))
                have n12_ := Aside0.mk ((by rw [hg]; exact Nat.ne_of_gt (blk_lt (g := gb434) (o := .cells #[.int .u8 0, .int .i64 0, .string (⟨#[]⟩ : ByteArray)] 25 (0, 0)) (bk BK434.out)) : gb450 ≠ gb434))
                clear BK432
                clear BK433
                clear BK434
                clear HB
                have BK432 := n0_
                have BK433 := n1_
                have BK434 := n2_
                have HB := n3_
                have BK450 := n4_
                have GW450 := n5_
                have GE450 := n6_
                have NB432_450 := n7_
                have NB450_432 := n8_
                have NB433_450 := n9_
                have NB450_433 := n10_
                have NB434_450 := n11_
                have NB450_434 := n12_
                clear n0_ n1_ n2_ n3_ n4_ n5_ n6_ n7_ n8_ n9_ n10_ n11_ n12_
                clear hb hbox hg
                refine hK.out _ _ ⟨(blk_cell BK432.out 0).trans rfl, (blk_cell BK432.out 1).trans rfl, (blk_cell BK432.out 2).trans rfl, (blk_cell BK433.out 0).trans rfl, (blk_cell BK433.out 1).trans rfl, (blk_cell BK433.out 2).trans rfl⟩ (fun hHeld => ?_)
                clear hK K
                refine norm_ (a' := ?_) ?_ ?_
                rotate_left
                ·show Act.put _ (some 9) _ = _
                 simp only [Act.put, List.setIfInBounds_toArray, List.set_cons_zero, List.set_cons_succ, i64_w, i32_w]
                 rfl
                exact norm_ (by first | (simp only [putAll, Act.put, List.setIfInBounds_toArray, List.set_cons_zero, List.set_cons_succ]; done) | (simp only [putAll, Act.put, List.setIfInBounds_toArray, List.set_cons_zero, List.set_cons_succ]; rfl)) (hJ7 (gb450) _ ⟨hHeld, (bk BK432.out), (bk BK433.out), (bk BK434.out), (bk BK450.out), GW450.out, GE450.out, NB432_450.out, NB450_432.out, NB433_450.out, NB450_433.out, NB434_450.out, NB450_434.out, (by repeat (first | (with_reducible first | exact HB.out | apply below_alloc | apply pw_below_drewN | apply below_drew1 | refine below_set ?_ (Aside0.out (by assumption))) | exact HB.out))⟩)
              ·skip
               rintro gb450 w24 ⟨hS_, h0_, h1_, h2_, h3_, h4_, h5_, h6_, h7_, h8_, h9_, h10_, h11_, h12_⟩
               have n0_ : Aside0 (w24.heap[gb432]? = some (.cells #[.int .u8 a0_0, .int .i64 a0_1, .string a0_2] 25 (0, 0))) := ⟨h0_⟩
               have n1_ : Aside0 (w24.heap[gb433]? = some (.cells #[.int .u8 a1_0, .int .i64 a1_1, .string a1_2] 25 (0, 0))) := ⟨h1_⟩
               have n2_ : Aside0 (w24.heap[gb434]? = some (.cells #[.int .u8 0, .int .i64 0, .string (⟨#[]⟩ : ByteArray)] 25 (0, 0))) := ⟨h2_⟩
               have n3_ : Aside0 (w24.heap[gb450]? = some (.cells #[.bool false, .int .u64 0, .int .u64 0, .int .u64 0, .int .u64 0, .int .u64 0] 56 (0, 0))) := ⟨h3_⟩
               have n4_ : Aside0 (w.heap.size ≤ gb450) := ⟨h4_⟩
               have n5_ : Aside0 (w.heap.size ≤ gb450) := ⟨h5_⟩
               have n6_ : Aside0 (gb432 ≠ gb450) := ⟨h6_⟩
               have n7_ : Aside0 (gb450 ≠ gb432) := ⟨h7_⟩
               have n8_ : Aside0 (gb433 ≠ gb450) := ⟨h8_⟩
               have n9_ : Aside0 (gb450 ≠ gb433) := ⟨h9_⟩
               have n10_ : Aside0 (gb434 ≠ gb450) := ⟨h10_⟩
               have n11_ : Aside0 (gb450 ≠ gb434) := ⟨h11_⟩
               have n12_ : Aside0 (Below w.heap.size w w24) := ⟨h12_⟩
               clear BK432
               clear BK433
               clear BK434
               clear HB
               clear h0_ h1_ h2_ h3_ h4_ h5_ h6_ h7_ h8_ h9_ h10_ h11_ h12_
               have BK432 := n0_
               have BK433 := n1_
               have BK434 := n2_
               have BK450 := n3_
               have GW450 := n4_
               have GE450 := n5_
               have NB432_450 := n6_
               have NB450_432 := n7_
               have NB433_450 := n8_
               have NB450_433 := n9_
               have NB434_450 := n10_
               have NB450_434 := n11_
               have HB := n12_
               clear n0_ n1_ n2_ n3_ n4_ n5_ n6_ n7_ n8_ n9_ n10_ n11_ n12_
               have hHeld : w24.cell? ⟨gb432, 0, none⟩ = some (.int .u8 a0_0) ∧ w24.cell? ⟨gb432, 1, none⟩ = some (.int .i64 a0_1) ∧ w24.cell? ⟨gb432, 2, none⟩ = some (.string a0_2) ∧ w24.cell? ⟨gb433, 0, none⟩ = some (.int .u8 a1_0) ∧ w24.cell? ⟨gb433, 1, none⟩ = some (.int .i64 a1_1) ∧ w24.cell? ⟨gb433, 2, none⟩ = some (.string a1_2) := hS_
               refine norm_ (a' := ?_) ?_ ?_
               rotate_left
               ·simp only [putAll, Act.put, List.setIfInBounds_toArray, List.set_cons_zero, List.set_cons_succ]
                rfl
               refine two_ (i := 2) (j := 6) (Ni := some 26) (Nj := some 8) #[true, true, true, true, true, false, false, true, false, false, false] #[true, true, false, true, true, false, true, true, false, false, false] rfl rfl rfl rfl (two_of HT_.out (by kernel_rfl)) (by decide) (by decide) (fun K hK => ?_) (fun K hK => ?_)
               ·skip
                refine goes_ Tryd.func66 (by kernel_rfl) rfl #[.int .i64 a0_1] (by rfl) rfl rfl (by (try simp only [List.map_toArray, List.map_cons, List.map_nil]); first | done | rfl | (simp only [List.length_drop, List.length_take]; rfl)) ?_
                with_reducible refine (rf17_big.calls a0_1 t437 t438 t439 t440 t441 t442 _ A19.out).mono ?_
                rintro e w25 ⟨rfl, hb⟩
                refine ⟨_, rfl, ?_⟩
                have n0_ := Aside0.mk (blk_below (bk BK432.out) hb)
                have n1_ := Aside0.mk (blk_below (bk BK433.out) hb)
                have n2_ := Aside0.mk (blk_below (bk BK434.out) hb)
                have n3_ := Aside0.mk (blk_below (bk BK450.out) hb)
                have n4_ := Aside0.mk (below_step (by repeat (first | (with_reducible first | exact HB.out | apply below_alloc | apply pw_below_drewN | apply below_drew1 | refine below_set ?_ (Aside0.out (by assumption))) | exact HB.out)) hb)
                clear BK432
                clear BK433
                clear BK434
                clear BK450
                clear HB
                have BK432 := n0_
                have BK433 := n1_
                have BK434 := n2_
                have BK450 := n3_
                have HB := n4_
                clear n0_ n1_ n2_ n3_ n4_
                (try clear hb)
                (try clear hb2)
                (try clear hk)
                (try clear hi)
                refine hK.out _ _ ⟨(blk_cell BK432.out 0).trans rfl, (blk_cell BK432.out 1).trans rfl, (blk_cell BK432.out 2).trans rfl, (blk_cell BK433.out 0).trans rfl, (blk_cell BK433.out 1).trans rfl, (blk_cell BK433.out 2).trans rfl⟩ (fun hHeld => ?_)
                clear hK K
                refine norm_ (a' := ?_) ?_ ?_
                rotate_left
                ·show Act.put _ (some 26) _ = _
                 simp only [Act.put, List.setIfInBounds_toArray, List.set_cons_zero, List.set_cons_succ, i64_w, i32_w]
                 rfl
                exact norm_ (by first | (simp only [putAll, Act.put, List.setIfInBounds_toArray, List.set_cons_zero, List.set_cons_succ]; done) | (simp only [putAll, Act.put, List.setIfInBounds_toArray, List.set_cons_zero, List.set_cons_succ]; rfl)) (hJ2_7 (gb450) _ ⟨hHeld, (bk BK432.out), (bk BK433.out), (bk BK434.out), (bk BK450.out), GW450.out, GE450.out, NB432_450.out, NB450_432.out, NB433_450.out, NB450_433.out, NB434_450.out, NB450_434.out, (by repeat (first | (with_reducible first | exact HB.out | apply below_alloc | apply pw_below_drewN | apply below_drew1 | refine below_set ?_ (Aside0.out (by assumption))) | exact HB.out))⟩)
               ·skip
                refine box_step ?hg (N := 8) ?hd (cs := #[.bool false, .int .u64 0, .int .u64 0, .int .u64 0, .int .u64 0, .int .u64 0]) (t := 56) ?hr ?_; (case hd => rfl); (case hg => rfl); (case hr => first | (go_simp; done) | (go_simp; rfl))
                intro gb449 hg w25 hbox hb
                have n0_ := Aside0.mk (blk_below (bk BK432.out) hb)
                have n1_ := Aside0.mk (blk_below (bk BK433.out) hb)
                have n2_ := Aside0.mk (blk_below (bk BK434.out) hb)
                have n3_ := Aside0.mk (blk_below (bk BK450.out) hb)
                have n4_ := Aside0.mk (below_step (by repeat (first | (with_reducible first | exact HB.out | apply below_alloc | apply pw_below_drewN | apply below_drew1 | refine below_set ?_ (Aside0.out (by assumption))) | exact HB.out)) hb)
                have n5_ := Aside0.mk (hbox)
                have n6_ := Aside0.mk ((by rw [hg]; exact (below_size (by repeat (first | (with_reducible first | exact HB.out | apply below_alloc | apply pw_below_drewN | apply below_drew1 | refine below_set ?_ (Aside0.out (by assumption))) | exact HB.out))) : w.heap.size ≤ gb449))
                have n7_ := Aside0.mk ((by rw [hg]; exact (below_size (by repeat (first | (with_reducible first | exact HB.out | apply below_alloc | apply pw_below_drewN | apply below_drew1 | refine below_set ?_ (Aside0.out (by assumption))) | exact HB.out))) : w.heap.size ≤ gb449))
                have n8_ := Aside0.mk ((by rw [hg]; exact Nat.ne_of_lt (blk_lt (g := gb432) (o := .cells #[.int .u8 a0_0, .int .i64 a0_1, .string a0_2] 25 (0, 0)) (bk BK432.out)) : gb432 ≠ gb449))
                have n9_ := Aside0.mk ((by rw [hg]; exact Nat.ne_of_gt (blk_lt (g := gb432) (o := .cells #[.int .u8 a0_0, .int .i64 a0_1, .string a0_2] 25 (0, 0)) (bk BK432.out)) : gb449 ≠ gb432))
                have n10_ := Aside0.mk ((by rw [hg]; exact Nat.ne_of_lt (blk_lt (g := gb433) (o := .cells #[.int .u8 a1_0, .int .i64 a1_1, .string a1_2] 25 (0, 0)) (bk BK433.out)) : gb433 ≠ gb449))
                have n11_ := Aside0.mk ((by rw [hg]; exact Nat.ne_of_gt (blk_lt (g := gb433) (o := .cells #[.int .u8 a1_0, .int .i64 a1_1, .string a1_2] 25 (0, 0)) (bk BK433.out)) : gb449 ≠ gb433))
                have n12_ := Aside0.mk ((by rw [hg]; exact Nat.ne_of_lt (blk_lt (g := gb434) (o := .cells #[.int .u8 0, .int .i64 0, .string (⟨#[]⟩ : ByteArray)] 25 (0, 0)) (bk BK434.out)) : gb434 ≠ gb449))
                have n13_ := Aside0.mk ((by rw [hg]; exact Nat.ne_of_gt (blk_lt (g := gb434) (o := .cells #[.int .u8 0, .int .i64 0, .string (⟨#[]⟩ : ByteArray)] 25 (0, 0)) (bk BK434.out)) : gb449 ≠ gb434))
                have n14_ := Aside0.mk ((by rw [hg]; exact Nat.ne_of_lt (blk_lt (g := gb450) (o := .cells #[.bool false, .int .u64 0, .int .u64 0, .int .u64 0, .int .u64 0, .int .u64 0] 56 (0, 0)) (bk BK450.out)) : gb450 ≠ gb449))
                have n15_ := Aside0.mk ((by rw [hg]; exact Nat.ne_of_gt (blk_lt (g := gb450) (o := .cells #[.bool false, .int .u64 0, .int .u64 0, .int .u64 0, .int .u64 0, .int .u64 0] 56 (0, 0)) (bk BK450.out)) : gb449 ≠ gb450))
                clear BK432
                clear BK433
                clear BK434
                clear BK450
                clear HB
                have BK432 := n0_
                have BK433 := n1_
                have BK434 := n2_
                have BK450 := n3_
                have HB := n4_
                have BK449 := n5_
                have GW449 := n6_
                have GE449 := n7_
                have NB432_449 := n8_
                have NB449_432 := n9_
                have NB433_449 := n10_
                have NB449_433 := n11_
                have NB434_449 := n12_
                have NB449_434 := n13_
                have NB450_449 := n14_
                have NB449_450 := n15_
                clear n0_ n1_ n2_ n3_ n4_ n5_ n6_ n7_ n8_ n9_ n10_ n11_ n12_ n13_ n14_ n15_
                clear hb hbox hg
                refine hK.out _ _ ⟨(blk_cell BK432.out 0).trans rfl, (blk_cell BK432.out 1).trans rfl, (blk_cell BK432.out 2).trans rfl, (blk_cell BK433.out 0).trans rfl, (blk_cell BK433.out 1).trans rfl, (blk_cell BK433.out 2).trans rfl⟩ (fun hHeld => ?_)
                clear hK K
                refine norm_ (a' := ?_) ?_ ?_
                rotate_left
                ·show Act.put _ (some 8) _ = _
                 simp only [Act.put, List.setIfInBounds_toArray, List.set_cons_zero, List.set_cons_succ, i64_w, i32_w]
                 rfl
                exact norm_ (by first | (simp only [putAll, Act.put, List.setIfInBounds_toArray, List.set_cons_zero, List.set_cons_succ]; done) | (simp only [putAll, Act.put, List.setIfInBounds_toArray, List.set_cons_zero, List.set_cons_succ]; rfl)) (hJ6_7 (gb449, gb450) _ ⟨hHeld, (bk BK432.out), (bk BK433.out), (bk BK434.out), (bk BK449.out), (bk BK450.out), GW449.out, GE449.out, NB432_449.out, NB449_432.out, NB433_449.out, NB449_433.out, NB434_449.out, NB449_434.out, NB450_449.out, NB449_450.out, GW450.out, GE450.out, NB432_450.out, NB450_432.out, NB433_450.out, NB450_433.out, NB434_450.out, NB450_434.out, (by repeat (first | (with_reducible first | exact HB.out | apply below_alloc | apply pw_below_drewN | apply below_drew1 | refine below_set ?_ (Aside0.out (by assumption))) | exact HB.out))⟩)
             ·skip
              rintro gb449 w24 ⟨hS_, h0_, h1_, h2_, h3_, h4_, h5_, h6_, h7_, h8_, h9_, h10_, h11_, h12_⟩
              have n0_ : Aside0 (w24.heap[gb432]? = some (.cells #[.int .u8 a0_0, .int .i64 a0_1, .string a0_2] 25 (0, 0))) := ⟨h0_⟩
              have n1_ : Aside0 (w24.heap[gb433]? = some (.cells #[.int .u8 a1_0, .int .i64 a1_1, .string a1_2] 25 (0, 0))) := ⟨h1_⟩
              have n2_ : Aside0 (w24.heap[gb434]? = some (.cells #[.int .u8 0, .int .i64 0, .string (⟨#[]⟩ : ByteArray)] 25 (0, 0))) := ⟨h2_⟩
              have n3_ : Aside0 (w24.heap[gb449]? = some (.cells #[.bool false, .int .u64 0, .int .u64 0, .int .u64 0, .int .u64 0, .int .u64 0] 56 (0, 0))) := ⟨h3_⟩
              have n4_ : Aside0 (w.heap.size ≤ gb449) := ⟨h4_⟩
              have n5_ : Aside0 (w.heap.size ≤ gb449) := ⟨h5_⟩
              have n6_ : Aside0 (gb432 ≠ gb449) := ⟨h6_⟩
              have n7_ : Aside0 (gb449 ≠ gb432) := ⟨h7_⟩
              have n8_ : Aside0 (gb433 ≠ gb449) := ⟨h8_⟩
              have n9_ : Aside0 (gb449 ≠ gb433) := ⟨h9_⟩
              have n10_ : Aside0 (gb434 ≠ gb449) := ⟨h10_⟩
              have n11_ : Aside0 (gb449 ≠ gb434) := ⟨h11_⟩
              have n12_ : Aside0 (Below w.heap.size w w24) := ⟨h12_⟩
              clear BK432
              clear BK433
              clear BK434
              clear HB
              clear h0_ h1_ h2_ h3_ h4_ h5_ h6_ h7_ h8_ h9_ h10_ h11_ h12_
              have BK432 := n0_
              have BK433 := n1_
              have BK434 := n2_
              have BK449 := n3_
              have GW449 := n4_
              have GE449 := n5_
              have NB432_449 := n6_
              have NB449_432 := n7_
              have NB433_449 := n8_
              have NB449_433 := n9_
              have NB434_449 := n10_
              have NB449_434 := n11_
              have HB := n12_
              clear n0_ n1_ n2_ n3_ n4_ n5_ n6_ n7_ n8_ n9_ n10_ n11_ n12_
              have hHeld : w24.cell? ⟨gb432, 0, none⟩ = some (.int .u8 a0_0) ∧ w24.cell? ⟨gb432, 1, none⟩ = some (.int .i64 a0_1) ∧ w24.cell? ⟨gb432, 2, none⟩ = some (.string a0_2) ∧ w24.cell? ⟨gb433, 0, none⟩ = some (.int .u8 a1_0) ∧ w24.cell? ⟨gb433, 1, none⟩ = some (.int .i64 a1_1) ∧ w24.cell? ⟨gb433, 2, none⟩ = some (.string a1_2) := hS_
              refine norm_ (a' := ?_) ?_ ?_
              rotate_left
              ·simp only [putAll, Act.put, List.setIfInBounds_toArray, List.set_cons_zero, List.set_cons_succ]
               rfl
              refine two_ (i := 2) (j := 7) (Ni := some 26) (Nj := some 9) #[true, true, true, true, true, false, true, false, false, false, false] #[true, true, false, true, true, false, true, true, false, false, false] rfl rfl rfl rfl (two_of HT_.out (by kernel_rfl)) (by decide) (by decide) (fun K hK => ?_) (fun K hK => ?_)
              ·skip
               refine goes_ Tryd.func66 (by kernel_rfl) rfl #[.int .i64 a0_1] (by rfl) rfl rfl (by (try simp only [List.map_toArray, List.map_cons, List.map_nil]); first | done | rfl | (simp only [List.length_drop, List.length_take]; rfl)) ?_
               with_reducible refine (rf17_big.calls a0_1 t437 t438 t439 t440 t441 t442 _ A19.out).mono ?_
               rintro e w25 ⟨rfl, hb⟩
               refine ⟨_, rfl, ?_⟩
               have n0_ := Aside0.mk (blk_below (bk BK432.out) hb)
               have n1_ := Aside0.mk (blk_below (bk BK433.out) hb)
               have n2_ := Aside0.mk (blk_below (bk BK434.out) hb)
               have n3_ := Aside0.mk (blk_below (bk BK449.out) hb)
               have n4_ := Aside0.mk (below_step (by repeat (first | (with_reducible first | exact HB.out | apply below_alloc | apply pw_below_drewN | apply below_drew1 | refine below_set ?_ (Aside0.out (by assumption))) | exact HB.out)) hb)
               clear BK432
               clear BK433
               clear BK434
               clear BK449
               clear HB
               have BK432 := n0_
               have BK433 := n1_
               have BK434 := n2_
               have BK449 := n3_
               have HB := n4_
               clear n0_ n1_ n2_ n3_ n4_
               (try clear hb)
               (try clear hb2)
               (try clear hk)
               (try clear hi)
               refine hK.out _ _ ⟨(blk_cell BK432.out 0).trans rfl, (blk_cell BK432.out 1).trans rfl, (blk_cell BK432.out 2).trans rfl, (blk_cell BK433.out 0).trans rfl, (blk_cell BK433.out 1).trans rfl, (blk_cell BK433.out 2).trans rfl⟩ (fun hHeld => ?_)
               clear hK K
               refine norm_ (a' := ?_) ?_ ?_
               rotate_left
               ·show Act.put _ (some 26) _ = _
                simp only [Act.put, List.setIfInBounds_toArray, List.set_cons_zero, List.set_cons_succ, i64_w, i32_w]
                rfl
               exact norm_ (by first | (simp only [putAll, Act.put, List.setIfInBounds_toArray, List.set_cons_zero, List.set_cons_succ]; done) | (simp only [putAll, Act.put, List.setIfInBounds_toArray, List.set_cons_zero, List.set_cons_succ]; rfl)) (hJ2_6 (gb449) _ ⟨hHeld, (bk BK432.out), (bk BK433.out), (bk BK434.out), (bk BK449.out), GW449.out, GE449.out, NB432_449.out, NB449_432.out, NB433_449.out, NB449_433.out, NB434_449.out, NB449_434.out, (by repeat (first | (with_reducible first | exact HB.out | apply below_alloc | apply pw_below_drewN | apply below_drew1 | refine below_set ?_ (Aside0.out (by assumption))) | exact HB.out))⟩)
              ·skip
               refine box_step ?hg (N := 9) ?hd (cs := #[.bool false, .int .u64 0, .int .u64 0, .int .u64 0, .int .u64 0, .int .u64 0]) (t := 56) ?hr ?_; (case hd => rfl); (case hg => rfl); (case hr => first | (go_simp; done) | (go_simp; rfl))
               intro gb450 hg w25 hbox hb
               have n0_ := Aside0.mk (blk_below (bk BK432.out) hb)
               have n1_ := Aside0.mk (blk_below (bk BK433.out) hb)
               have n2_ := Aside0.mk (blk_below (bk BK434.out) hb)
               have n3_ := Aside0.mk (blk_below (bk BK449.out) hb)
               have n4_ := Aside0.mk (below_step (by repeat (first | (with_reducible first | exact HB.out | apply below_alloc | apply pw_below_drewN | apply below_drew1 | refine below_set ?_ (Aside0.out (by assumption))) | exact HB.out)) hb)
               have n5_ := Aside0.mk (hbox)
               have n6_ := Aside0.mk ((by rw [hg]; exact (below_size (by repeat (first | (with_reducible first | exact HB.out | apply below_alloc | apply pw_below_drewN | apply below_drew1 | refine below_set ?_ (Aside0.out (by assumption))) | exact HB.out))) : w.heap.size ≤ gb450))
               have n7_ := Aside0.mk ((by rw [hg]; exact (below_size (by repeat (first | (with_reducible first | exact HB.out | apply below_alloc | apply pw_below_drewN | apply below_drew1 | refine below_set ?_ (Aside0.out (by assumption))) | exact HB.out))) : w.heap.size ≤ gb450))
               have n8_ := Aside0.mk ((by rw [hg]; exact Nat.ne_of_lt (blk_lt (g := gb432) (o := .cells #[.int .u8 a0_0, .int .i64 a0_1, .string a0_2] 25 (0, 0)) (bk BK432.out)) : gb432 ≠ gb450))
               have n9_ := Aside0.mk ((by rw [hg]; exact Nat.ne_of_gt (blk_lt (g := gb432) (o := .cells #[.int .u8 a0_0, .int .i64 a0_1, .string a0_2] 25 (0, 0)) (bk BK432.out)) : gb450 ≠ gb432))
               have n10_ := Aside0.mk ((by rw [hg]; exact Nat.ne_of_lt (blk_lt (g := gb433) (o := .cells #[.int .u8 a1_0, .int .i64 a1_1, .string a1_2] 25 (0, 0)) (bk BK433.out)) : gb433 ≠ gb450))
               have n11_ := Aside0.mk ((by rw [hg]; exact Nat.ne_of_gt (blk_lt (g := gb433) (o := .cells #[.int .u8 a1_0, .int .i64 a1_1, .string a1_2] 25 (0, 0)) (bk BK433.out)) : gb450 ≠ gb433))
               have n12_ := Aside0.mk ((by rw [hg]; exact Nat.ne_of_lt (blk_lt (g := gb434) (o := .cells #[.int .u8 0, .int .i64 0, .string (⟨#[]⟩ : ByteArray)] 25 (0, 0)) (bk BK434.out)) : gb434 ≠ gb450))
               have n13_ := Aside0.mk ((by rw [hg]; exact Nat.ne_of_gt (blk_lt (g := gb434) (o := .cells #[.int .u8 0, .int .i64 0, .string (⟨#[]⟩ : ByteArray)] 25 (0, 0)) (bk BK434.out)) : gb450 ≠ gb434))
               have n14_ := Aside0.mk ((by rw [hg]; exact Nat.ne_of_lt (blk_lt (g := gb449) (o := .cells #[.bool false, .int .u64 0, .int .u64 0, .int .u64 0, .int .u64 0, .int .u64 0] 56 (0, 0)) (bk BK449.out)) : gb449 ≠ gb450))
               have n15_ := Aside0.mk ((by rw [hg]; exact Nat.ne_of_gt (blk_lt (g := gb449) (o := .cells #[.bool false, .int .u64 0, .int .u64 0, .int .u64 0, .int .u64 0, .int .u64 0] 56 (0, 0)) (bk BK449.out)) : gb450 ≠ gb449))
               clear BK432
               clear BK433
               clear BK434
               clear BK449
               clear HB
               have BK432 := n0_
               have BK433 := n1_
               have BK434 := n2_
               have BK449 := n3_
               have HB := n4_
               have BK450 := n5_
               have GW450 := n6_
               have GE450 := n7_
               have NB432_450 := n8_
               have NB450_432 := n9_
               have NB433_450 := n10_
               have NB450_433 := n11_
               have NB434_450 := n12_
               have NB450_434 := n13_
               have NB449_450 := n14_
               have NB450_449 := n15_
               clear n0_ n1_ n2_ n3_ n4_ n5_ n6_ n7_ n8_ n9_ n10_ n11_ n12_ n13_ n14_ n15_
               clear hb hbox hg
               refine hK.out _ _ ⟨(blk_cell BK432.out 0).trans rfl, (blk_cell BK432.out 1).trans rfl, (blk_cell BK432.out 2).trans rfl, (blk_cell BK433.out 0).trans rfl, (blk_cell BK433.out 1).trans rfl, (blk_cell BK433.out 2).trans rfl⟩ (fun hHeld => ?_)
               clear hK K
               refine norm_ (a' := ?_) ?_ ?_
               rotate_left
               ·show Act.put _ (some 9) _ = _
                simp only [Act.put, List.setIfInBounds_toArray, List.set_cons_zero, List.set_cons_succ, i64_w, i32_w]
                rfl
               exact norm_ (by first | (simp only [putAll, Act.put, List.setIfInBounds_toArray, List.set_cons_zero, List.set_cons_succ]; done) | (simp only [putAll, Act.put, List.setIfInBounds_toArray, List.set_cons_zero, List.set_cons_succ]; rfl)) (hJ6_7 (gb449, gb450) _ ⟨hHeld, (bk BK432.out), (bk BK433.out), (bk BK434.out), (bk BK449.out), (bk BK450.out), GW449.out, GE449.out, NB432_449.out, NB449_432.out, NB433_449.out, NB449_433.out, NB434_449.out, NB449_434.out, NB450_449.out, NB449_450.out, GW450.out, GE450.out, NB432_450.out, NB450_432.out, NB433_450.out, NB450_433.out, NB434_450.out, NB450_434.out, (by repeat (first | (with_reducible first | exact HB.out | apply below_alloc | apply pw_below_drewN | apply below_drew1 | refine below_set ?_ (Aside0.out (by assumption))) | exact HB.out))⟩)
            ·skip
             rintro _ w24 ⟨hS_, h0_, h1_, h2_, h3_⟩
             have n0_ : Aside0 (w24.heap[gb432]? = some (.cells #[.int .u8 a0_0, .int .i64 a0_1, .string a0_2] 25 (0, 0))) := ⟨h0_⟩
             have n1_ : Aside0 (w24.heap[gb433]? = some (.cells #[.int .u8 a1_0, .int .i64 a1_1, .string a1_2] 25 (0, 0))) := ⟨h1_⟩
             have n2_ : Aside0 (w24.heap[gb434]? = some (.cells #[.int .u8 0, .int .i64 0, .string (⟨#[]⟩ : ByteArray)] 25 (0, 0))) := ⟨h2_⟩
             have n3_ : Aside0 (Below w.heap.size w w24) := ⟨h3_⟩
             clear BK432
             clear BK433
             clear BK434
             clear HB
             clear h0_ h1_ h2_ h3_
             have BK432 := n0_
             have BK433 := n1_
             have BK434 := n2_
             have HB := n3_
             clear n0_ n1_ n2_ n3_
             have hHeld : w24.cell? ⟨gb432, 0, none⟩ = some (.int .u8 a0_0) ∧ w24.cell? ⟨gb432, 1, none⟩ = some (.int .i64 a0_1) ∧ w24.cell? ⟨gb432, 2, none⟩ = some (.string a0_2) ∧ w24.cell? ⟨gb433, 0, none⟩ = some (.int .u8 a1_0) ∧ w24.cell? ⟨gb433, 1, none⟩ = some (.int .i64 a1_1) ∧ w24.cell? ⟨gb433, 2, none⟩ = some (.string a1_2) := hS_
             refine norm_ (a' := ?_) ?_ ?_
             rotate_left
             ·simp only [putAll, Act.put, List.setIfInBounds_toArray, List.set_cons_zero, List.set_cons_succ]
              rfl
             refine three_ (i := 5) (j := 6) (k := 7) (Ni := some 29) (Nj := some 8) (Nk := some 9) #[true, true, true, true, true, true, false, false, false, false, false] #[true, true, true, true, true, false, true, false, false, false, false] #[true, true, true, true, true, false, false, true, false, false, false] rfl rfl rfl rfl rfl rfl (three_of HT_.out (by kernel_rfl)) (by decide) (by decide) (by decide) (fun K hK => ?_) (fun K hK => ?_) (fun K hK => ?_)
             ·skip
              refine goes_ Tryd.func66 (by kernel_rfl) rfl #[.int .i64 a1_1] (by rfl) rfl rfl (by (try simp only [List.map_toArray, List.map_cons, List.map_nil]); first | done | rfl | (simp only [List.length_drop, List.length_take]; rfl)) ?_
              with_reducible refine (rf17_big.calls a1_1 t443 t444 t445 t446 t447 t448 _ A20.out).mono ?_
              rintro e w25 ⟨rfl, hb⟩
              refine ⟨_, rfl, ?_⟩
              have n0_ := Aside0.mk (blk_below (bk BK432.out) hb)
              have n1_ := Aside0.mk (blk_below (bk BK433.out) hb)
              have n2_ := Aside0.mk (blk_below (bk BK434.out) hb)
              have n3_ := Aside0.mk (below_step (by repeat (first | (with_reducible first | exact HB.out | apply below_alloc | apply pw_below_drewN | apply below_drew1 | refine below_set ?_ (Aside0.out (by assumption))) | exact HB.out)) hb)
              clear BK432
              clear BK433
              clear BK434
              clear HB
              have BK432 := n0_
              have BK433 := n1_
              have BK434 := n2_
              have HB := n3_
              clear n0_ n1_ n2_ n3_
              (try clear hb)
              (try clear hb2)
              (try clear hk)
              (try clear hi)
              refine hK.out _ _ ⟨(blk_cell BK432.out 0).trans rfl, (blk_cell BK432.out 1).trans rfl, (blk_cell BK432.out 2).trans rfl, (blk_cell BK433.out 0).trans rfl, (blk_cell BK433.out 1).trans rfl, (blk_cell BK433.out 2).trans rfl⟩ (fun hHeld => ?_)
              clear hK K
              refine norm_ (a' := ?_) ?_ ?_
              rotate_left
              ·show Act.put _ (some 29) _ = _
               simp only [Act.put, List.setIfInBounds_toArray, List.set_cons_zero, List.set_cons_succ, i64_w, i32_w]
               rfl
              exact norm_ (by first | (simp only [putAll, Act.put, List.setIfInBounds_toArray, List.set_cons_zero, List.set_cons_succ]; done) | (simp only [putAll, Act.put, List.setIfInBounds_toArray, List.set_cons_zero, List.set_cons_succ]; rfl)) (hJ2_5 () _ ⟨hHeld, (bk BK432.out), (bk BK433.out), (bk BK434.out), (by repeat (first | (with_reducible first | exact HB.out | apply below_alloc | apply pw_below_drewN | apply below_drew1 | refine below_set ?_ (Aside0.out (by assumption))) | exact HB.out))⟩)
             ·skip
              refine box_step ?hg (N := 8) ?hd (cs := #[.bool false, .int .u64 0, .int .u64 0, .int .u64 0, .int .u64 0, .int .u64 0]) (t := 56) ?hr ?_; (case hd => rfl); (case hg => rfl); (case hr => first | (go_simp; done) | (go_simp; rfl))
              intro gb449 hg w25 hbox hb
              have n0_ := Aside0.mk (blk_below (bk BK432.out) hb)
              have n1_ := Aside0.mk (blk_below (bk BK433.out) hb)
              have n2_ := Aside0.mk (blk_below (bk BK434.out) hb)
              have n3_ := Aside0.mk (below_step (by repeat (first | (with_reducible first | exact HB.out | apply below_alloc | apply pw_below_drewN | apply below_drew1 | refine below_set ?_ (Aside0.out (by assumption))) | exact HB.out)) hb)
              have n4_ := Aside0.mk (hbox)
              have n5_ := Aside0.mk ((by rw [hg]; exact (below_size (by repeat (first | (with_reducible first | exact HB.out | apply below_alloc | apply pw_below_drewN | apply below_drew1 | refine below_set ?_ (Aside0.out (by assumption))) | exact HB.out))) : w.heap.size ≤ gb449))
              have n6_ := Aside0.mk ((by rw [hg]; exact (below_size (by repeat (first | (with_reducible first | exact HB.out | apply below_alloc | apply pw_below_drewN | apply below_drew1 | refine below_set ?_ (Aside0.out (by assumption))) | exact HB.out))) : w.heap.size ≤ gb449))
              have n7_ := Aside0.mk ((by rw [hg]; exact Nat.ne_of_lt (blk_lt (g := gb432) (o := .cells #[.int .u8 a0_0, .int .i64 a0_1, .string a0_2] 25 (0, 0)) (bk BK432.out)) : gb432 ≠ gb449))
              have n8_ := Aside0.mk ((by rw [hg]; exact Nat.ne_of_gt (blk_lt (g := gb432) (o := .cells #[.int .u8 a0_0, .int .i64 a0_1, .string a0_2] 25 (0, 0)) (bk BK432.out)) : gb449 ≠ gb432))
              have n9_ := Aside0.mk ((by rw [hg]; exact Nat.ne_of_lt (blk_lt (g := gb433) (o := .cells #[.int .u8 a1_0, .int .i64 a1_1, .string a1_2] 25 (0, 0)) (bk BK433.out)) : gb433 ≠ gb449))
              have n10_ := Aside0.mk ((by rw [hg]; exact Nat.ne_of_gt (blk_lt (g := gb433) (o := .cells #[.int .u8 a1_0, .int .i64 a1_1, .string a1_2] 25 (0, 0)) (bk BK433.out)) : gb449 ≠ gb433))
              have n11_ := Aside0.mk ((by rw [hg]; exact Nat.ne_of_lt (blk_lt (g := gb434) (o := .cells #[.int .u8 0, .int .i64 0, .string (⟨#[]⟩ : ByteArray)] 25 (0, 0)) (bk BK434.out)) : gb434 ≠ gb449))
              have n12_ := Aside0.mk ((by rw [hg]; exact Nat.ne_of_gt (blk_lt (g := gb434) (o := .cells #[.int .u8 0, .int .i64 0, .string (⟨#[]⟩ : ByteArray)] 25 (0, 0)) (bk BK434.out)) : gb449 ≠ gb434))
              clear BK432
              clear BK433
              clear BK434
              clear HB
              have BK432 := n0_
              have BK433 := n1_
              have BK434 := n2_
              have HB := n3_
              have BK449 := n4_
              have GW449 := n5_
              have GE449 := n6_
              have NB432_449 := n7_
              have NB449_432 := n8_
              have NB433_449 := n9_
              have NB449_433 := n10_
              have NB434_449 := n11_
              have NB449_434 := n12_
              clear n0_ n1_ n2_ n3_ n4_ n5_ n6_ n7_ n8_ n9_ n10_ n11_ n12_
              clear hb hbox hg
              refine hK.out _ _ ⟨(blk_cell BK432.out 0).trans rfl, (blk_cell BK432.out 1).trans rfl, (blk_cell BK432.out 2).trans rfl, (blk_cell BK433.out 0).trans rfl, (blk_cell BK433.out 1).trans rfl, (blk_cell BK433.out 2).trans rfl⟩ (fun hHeld => ?_)
              clear hK K
              refine norm_ (a' := ?_) ?_ ?_
              rotate_left
              ·show Act.put _ (some 8) _ = _
               simp only [Act.put, List.setIfInBounds_toArray, List.set_cons_zero, List.set_cons_succ, i64_w, i32_w]
               rfl
              exact norm_ (by first | (simp only [putAll, Act.put, List.setIfInBounds_toArray, List.set_cons_zero, List.set_cons_succ]; done) | (simp only [putAll, Act.put, List.setIfInBounds_toArray, List.set_cons_zero, List.set_cons_succ]; rfl)) (hJ2_6 (gb449) _ ⟨hHeld, (bk BK432.out), (bk BK433.out), (bk BK434.out), (bk BK449.out), GW449.out, GE449.out, NB432_449.out, NB449_432.out, NB433_449.out, NB449_433.out, NB434_449.out, NB449_434.out, (by repeat (first | (with_reducible first | exact HB.out | apply below_alloc | apply pw_below_drewN | apply below_drew1 | refine below_set ?_ (Aside0.out (by assumption))) | exact HB.out))⟩)
             ·skip
              refine box_step ?hg (N := 9) ?hd (cs := #[.bool false, .int .u64 0, .int .u64 0, .int .u64 0, .int .u64 0, .int .u64 0]) (t := 56) ?hr ?_; (case hd => rfl); (case hg => rfl); (case hr => first | (go_simp; done) | (go_simp; rfl))
              intro gb450 hg w25 hbox hb
              have n0_ := Aside0.mk (blk_below (bk BK432.out) hb)
              have n1_ := Aside0.mk (blk_below (bk BK433.out) hb)
              have n2_ := Aside0.mk (blk_below (bk BK434.out) hb)
              have n3_ := Aside0.mk (below_step (by repeat (first | (with_reducible first | exact HB.out | apply below_alloc | apply pw_below_drewN | apply below_drew1 | refine below_set ?_ (Aside0.out (by assumption))) | exact HB.out)) hb)
              have n4_ := Aside0.mk (hbox)
              have n5_ := Aside0.mk ((by rw [hg]; exact (below_size (by repeat (first | (with_reducible first | exact HB.out | apply below_alloc | apply pw_below_drewN | apply below_drew1 | refine below_set ?_ (Aside0.out (by assumption))) | exact HB.out))) : w.heap.size ≤ gb450))
              have n6_ := Aside0.mk ((by rw [hg]; exact (below_size (by repeat (first | (with_reducible first | exact HB.out | apply below_alloc | apply pw_below_drewN | apply below_drew1 | refine below_set ?_ (Aside0.out (by assumption))) | exact HB.out))) : w.heap.size ≤ gb450))
              have n7_ := Aside0.mk ((by rw [hg]; exact Nat.ne_of_lt (blk_lt (g := gb432) (o := .cells #[.int .u8 a0_0, .int .i64 a0_1, .string a0_2] 25 (0, 0)) (bk BK432.out)) : gb432 ≠ gb450))
              have n8_ := Aside0.mk ((by rw [hg]; exact Nat.ne_of_gt (blk_lt (g := gb432) (o := .cells #[.int .u8 a0_0, .int .i64 a0_1, .string a0_2] 25 (0, 0)) (bk BK432.out)) : gb450 ≠ gb432))
              have n9_ := Aside0.mk ((by rw [hg]; exact Nat.ne_of_lt (blk_lt (g := gb433) (o := .cells #[.int .u8 a1_0, .int .i64 a1_1, .string a1_2] 25 (0, 0)) (bk BK433.out)) : gb433 ≠ gb450))
              have n10_ := Aside0.mk ((by rw [hg]; exact Nat.ne_of_gt (blk_lt (g := gb433) (o := .cells #[.int .u8 a1_0, .int .i64 a1_1, .string a1_2] 25 (0, 0)) (bk BK433.out)) : gb450 ≠ gb433))
              have n11_ := Aside0.mk ((by rw [hg]; exact Nat.ne_of_lt (blk_lt (g := gb434) (o := .cells #[.int .u8 0, .int .i64 0, .string (⟨#[]⟩ : ByteArray)] 25 (0, 0)) (bk BK434.out)) : gb434 ≠ gb450))
              have n12_ := Aside0.mk ((by rw [hg]; exact Nat.ne_of_gt (blk_lt (g := gb434) (o := .cells #[.int .u8 0, .int .i64 0, .string (⟨#[]⟩ : ByteArray)] 25 (0, 0)) (bk BK434.out)) : gb450 ≠ gb434))
              clear BK432
              clear BK433
              clear BK434
              clear HB
              have BK432 := n0_
              have BK433 := n1_
              have BK434 := n2_
              have HB := n3_
              have BK450 := n4_
              have GW450 := n5_
              have GE450 := n6_
              have NB432_450 := n7_
              have NB450_432 := n8_
              have NB433_450 := n9_
              have NB450_433 := n10_
              have NB434_450 := n11_
              have NB450_434 := n12_
              clear n0_ n1_ n2_ n3_ n4_ n5_ n6_ n7_ n8_ n9_ n10_ n11_ n12_
              clear hb hbox hg
              refine hK.out _ _ ⟨(blk_cell BK432.out 0).trans rfl, (blk_cell BK432.out 1).trans rfl, (blk_cell BK432.out 2).trans rfl, (blk_cell BK433.out 0).trans rfl, (blk_cell BK433.out 1).trans rfl, (blk_cell BK433.out 2).trans rfl⟩ (fun hHeld => ?_)
              clear hK K
              refine norm_ (a' := ?_) ?_ ?_
              rotate_left
              ·show Act.put _ (some 9) _ = _
               simp only [Act.put, List.setIfInBounds_toArray, List.set_cons_zero, List.set_cons_succ, i64_w, i32_w]
               rfl
              exact norm_ (by first | (simp only [putAll, Act.put, List.setIfInBounds_toArray, List.set_cons_zero, List.set_cons_succ]; done) | (simp only [putAll, Act.put, List.setIfInBounds_toArray, List.set_cons_zero, List.set_cons_succ]; rfl)) (hJ2_7 (gb450) _ ⟨hHeld, (bk BK432.out), (bk BK433.out), (bk BK434.out), (bk BK450.out), GW450.out, GE450.out, NB432_450.out, NB450_432.out, NB433_450.out, NB450_433.out, NB434_450.out, NB450_434.out, (by repeat (first | (with_reducible first | exact HB.out | apply below_alloc | apply pw_below_drewN | apply below_drew1 | refine below_set ?_ (Aside0.out (by assumption))) | exact HB.out))⟩)
           ·skip
            rintro ⟨gb449, gb450⟩ w25 ⟨hS_, h0_, h1_, h2_, h3_, h4_, h5_, h6_, h7_, h8_, h9_, h10_, h11_, h12_, h13_, h14_, h15_, h16_, h17_, h18_, h19_, h20_, h21_, h22_, h23_⟩
            have n0_ : Aside0 (w25.heap[gb432]? = some (.cells #[.int .u8 a0_0, .int .i64 a0_1, .string a0_2] 25 (0, 0))) := ⟨h0_⟩
            have n1_ : Aside0 (w25.heap[gb433]? = some (.cells #[.int .u8 a1_0, .int .i64 a1_1, .string a1_2] 25 (0, 0))) := ⟨h1_⟩
            have n2_ : Aside0 (w25.heap[gb434]? = some (.cells #[.int .u8 0, .int .i64 0, .string (⟨#[]⟩ : ByteArray)] 25 (0, 0))) := ⟨h2_⟩
            have n3_ : Aside0 (w25.heap[gb449]? = some (.cells #[.bool false, .int .u64 0, .int .u64 0, .int .u64 0, .int .u64 0, .int .u64 0] 56 (0, 0))) := ⟨h3_⟩
            have n4_ : Aside0 (w25.heap[gb450]? = some (.cells #[.bool false, .int .u64 0, .int .u64 0, .int .u64 0, .int .u64 0, .int .u64 0] 56 (0, 0))) := ⟨h4_⟩
            have n5_ : Aside0 (w.heap.size ≤ gb449) := ⟨h5_⟩
            have n6_ : Aside0 (w.heap.size ≤ gb449) := ⟨h6_⟩
            have n7_ : Aside0 (gb432 ≠ gb449) := ⟨h7_⟩
            have n8_ : Aside0 (gb449 ≠ gb432) := ⟨h8_⟩
            have n9_ : Aside0 (gb433 ≠ gb449) := ⟨h9_⟩
            have n10_ : Aside0 (gb449 ≠ gb433) := ⟨h10_⟩
            have n11_ : Aside0 (gb434 ≠ gb449) := ⟨h11_⟩
            have n12_ : Aside0 (gb449 ≠ gb434) := ⟨h12_⟩
            have n13_ : Aside0 (gb450 ≠ gb449) := ⟨h13_⟩
            have n14_ : Aside0 (gb449 ≠ gb450) := ⟨h14_⟩
            have n15_ : Aside0 (w.heap.size ≤ gb450) := ⟨h15_⟩
            have n16_ : Aside0 (w.heap.size ≤ gb450) := ⟨h16_⟩
            have n17_ : Aside0 (gb432 ≠ gb450) := ⟨h17_⟩
            have n18_ : Aside0 (gb450 ≠ gb432) := ⟨h18_⟩
            have n19_ : Aside0 (gb433 ≠ gb450) := ⟨h19_⟩
            have n20_ : Aside0 (gb450 ≠ gb433) := ⟨h20_⟩
            have n21_ : Aside0 (gb434 ≠ gb450) := ⟨h21_⟩
            have n22_ : Aside0 (gb450 ≠ gb434) := ⟨h22_⟩
            have n23_ : Aside0 (Below w.heap.size w w25) := ⟨h23_⟩
            clear BK432
            clear BK433
            clear BK434
            clear HB
            clear h0_ h1_ h2_ h3_ h4_ h5_ h6_ h7_ h8_ h9_ h10_ h11_ h12_ h13_ h14_ h15_ h16_ h17_ h18_ h19_ h20_ h21_ h22_ h23_
            have BK432 := n0_
            have BK433 := n1_
            have BK434 := n2_
            have BK449 := n3_
            have BK450 := n4_
            have GW449 := n5_
            have GE449 := n6_
            have NB432_449 := n7_
            have NB449_432 := n8_
            have NB433_449 := n9_
            have NB449_433 := n10_
            have NB434_449 := n11_
            have NB449_434 := n12_
            have NB450_449 := n13_
            have NB449_450 := n14_
            have GW450 := n15_
            have GE450 := n16_
            have NB432_450 := n17_
            have NB450_432 := n18_
            have NB433_450 := n19_
            have NB450_433 := n20_
            have NB434_450 := n21_
            have NB450_434 := n22_
            have HB := n23_
            clear n0_ n1_ n2_ n3_ n4_ n5_ n6_ n7_ n8_ n9_ n10_ n11_ n12_ n13_ n14_ n15_ n16_ n17_ n18_ n19_ n20_ n21_ n22_ n23_
            have hHeld : w25.cell? ⟨gb432, 0, none⟩ = some (.int .u8 a0_0) ∧ w25.cell? ⟨gb432, 1, none⟩ = some (.int .i64 a0_1) ∧ w25.cell? ⟨gb432, 2, none⟩ = some (.string a0_2) ∧ w25.cell? ⟨gb433, 0, none⟩ = some (.int .u8 a1_0) ∧ w25.cell? ⟨gb433, 1, none⟩ = some (.int .i64 a1_1) ∧ w25.cell? ⟨gb433, 2, none⟩ = some (.string a1_2) := hS_
            refine norm_ (a' := ?_) ?_ ?_
            rotate_left
            ·simp only [putAll, Act.put, List.setIfInBounds_toArray, List.set_cons_zero, List.set_cons_succ]
             rfl
            refine one_ (i := 2) (N := some 26) #[true, true, true, true, true, false, true, true, false, false, false] rfl rfl (one_of HT_.out (by kernel_rfl)) (by decide) (fun K hK => ?_)
            refine goes_ Tryd.func66 (by kernel_rfl) rfl #[.int .i64 a0_1] (by rfl) rfl rfl (by (try simp only [List.map_toArray, List.map_cons, List.map_nil]); first | done | rfl | (simp only [List.length_drop, List.length_take]; rfl)) ?_
            with_reducible refine (rf17_big.calls a0_1 t437 t438 t439 t440 t441 t442 _ A19.out).mono ?_
            rintro e w26 ⟨rfl, hb⟩
            refine ⟨_, rfl, ?_⟩
            have n0_ := Aside0.mk (blk_below (bk BK432.out) hb)
            have n1_ := Aside0.mk (blk_below (bk BK433.out) hb)
            have n2_ := Aside0.mk (blk_below (bk BK434.out) hb)
            have n3_ := Aside0.mk (blk_below (bk BK449.out) hb)
            have n4_ := Aside0.mk (blk_below (bk BK450.out) hb)
            have n5_ := Aside0.mk (below_step (by repeat (first | (with_reducible first | exact HB.out | apply below_alloc | apply pw_below_drewN | apply below_drew1 | refine below_set ?_ (Aside0.out (by assumption))) | exact HB.out)) hb)
            clear BK432
            clear BK433
            clear BK434
            clear BK449
            clear BK450
            clear HB
            have BK432 := n0_
            have BK433 := n1_
            have BK434 := n2_
            have BK449 := n3_
            have BK450 := n4_
            have HB := n5_
            clear n0_ n1_ n2_ n3_ n4_ n5_
            (try clear hb)
            (try clear hb2)
            (try clear hk)
            (try clear hi)
            refine hK.out _ _ ⟨(blk_cell BK432.out 0).trans rfl, (blk_cell BK432.out 1).trans rfl, (blk_cell BK432.out 2).trans rfl, (blk_cell BK433.out 0).trans rfl, (blk_cell BK433.out 1).trans rfl, (blk_cell BK433.out 2).trans rfl⟩ (fun hHeld => ?_)
            clear hK K
            refine norm_ (a' := ?_) ?_ ?_
            rotate_left
            ·show Act.put _ (some 26) _ = _
             simp only [Act.put, List.setIfInBounds_toArray, List.set_cons_zero, List.set_cons_succ, i64_w, i32_w]
             rfl
            exact norm_ (by first | (simp only [putAll, Act.put, List.setIfInBounds_toArray, List.set_cons_zero, List.set_cons_succ]; done) | (simp only [putAll, Act.put, List.setIfInBounds_toArray, List.set_cons_zero, List.set_cons_succ]; rfl)) (hJ2_6_7 (gb449, gb450) _ ⟨hHeld, (bk BK432.out), (bk BK433.out), (bk BK434.out), (bk BK449.out), (bk BK450.out), GW449.out, GE449.out, NB432_449.out, NB449_432.out, NB433_449.out, NB449_433.out, NB434_449.out, NB449_434.out, NB450_449.out, NB449_450.out, GW450.out, GE450.out, NB432_450.out, NB450_432.out, NB433_450.out, NB450_433.out, NB434_450.out, NB450_434.out, (by repeat (first | (with_reducible first | exact HB.out | apply below_alloc | apply pw_below_drewN | apply below_drew1 | refine below_set ?_ (Aside0.out (by assumption))) | exact HB.out))⟩)
          ·skip
           rintro gb450 w25 ⟨hS_, h0_, h1_, h2_, h3_, h4_, h5_, h6_, h7_, h8_, h9_, h10_, h11_, h12_⟩
           have n0_ : Aside0 (w25.heap[gb432]? = some (.cells #[.int .u8 a0_0, .int .i64 a0_1, .string a0_2] 25 (0, 0))) := ⟨h0_⟩
           have n1_ : Aside0 (w25.heap[gb433]? = some (.cells #[.int .u8 a1_0, .int .i64 a1_1, .string a1_2] 25 (0, 0))) := ⟨h1_⟩
           have n2_ : Aside0 (w25.heap[gb434]? = some (.cells #[.int .u8 0, .int .i64 0, .string (⟨#[]⟩ : ByteArray)] 25 (0, 0))) := ⟨h2_⟩
           have n3_ : Aside0 (w25.heap[gb450]? = some (.cells #[.bool false, .int .u64 0, .int .u64 0, .int .u64 0, .int .u64 0, .int .u64 0] 56 (0, 0))) := ⟨h3_⟩
           have n4_ : Aside0 (w.heap.size ≤ gb450) := ⟨h4_⟩
           have n5_ : Aside0 (w.heap.size ≤ gb450) := ⟨h5_⟩
           have n6_ : Aside0 (gb432 ≠ gb450) := ⟨h6_⟩
           have n7_ : Aside0 (gb450 ≠ gb432) := ⟨h7_⟩
           have n8_ : Aside0 (gb433 ≠ gb450) := ⟨h8_⟩
           have n9_ : Aside0 (gb450 ≠ gb433) := ⟨h9_⟩
           have n10_ : Aside0 (gb434 ≠ gb450) := ⟨h10_⟩
           have n11_ : Aside0 (gb450 ≠ gb434) := ⟨h11_⟩
           have n12_ : Aside0 (Below w.heap.size w w25) := ⟨h12_⟩
           clear BK432
           clear BK433
           clear BK434
           clear HB
           clear h0_ h1_ h2_ h3_ h4_ h5_ h6_ h7_ h8_ h9_ h10_ h11_ h12_
           have BK432 := n0_
           have BK433 := n1_
           have BK434 := n2_
           have BK450 := n3_
           have GW450 := n4_
           have GE450 := n5_
           have NB432_450 := n6_
           have NB450_432 := n7_
           have NB433_450 := n8_
           have NB450_433 := n9_
           have NB434_450 := n10_
           have NB450_434 := n11_
           have HB := n12_
           clear n0_ n1_ n2_ n3_ n4_ n5_ n6_ n7_ n8_ n9_ n10_ n11_ n12_
           have hHeld : w25.cell? ⟨gb432, 0, none⟩ = some (.int .u8 a0_0) ∧ w25.cell? ⟨gb432, 1, none⟩ = some (.int .i64 a0_1) ∧ w25.cell? ⟨gb432, 2, none⟩ = some (.string a0_2) ∧ w25.cell? ⟨gb433, 0, none⟩ = some (.int .u8 a1_0) ∧ w25.cell? ⟨gb433, 1, none⟩ = some (.int .i64 a1_1) ∧ w25.cell? ⟨gb433, 2, none⟩ = some (.string a1_2) := hS_
           refine norm_ (a' := ?_) ?_ ?_
           rotate_left
           ·simp only [putAll, Act.put, List.setIfInBounds_toArray, List.set_cons_zero, List.set_cons_succ]
            rfl
           refine two_ (i := 5) (j := 6) (Ni := some 29) (Nj := some 8) #[true, true, true, true, true, true, false, true, false, false, false] #[true, true, true, true, true, false, true, true, false, false, false] rfl rfl rfl rfl (two_of HT_.out (by kernel_rfl)) (by decide) (by decide) (fun K hK => ?_) (fun K hK => ?_)
           ·skip
            refine goes_ Tryd.func66 (by kernel_rfl) rfl #[.int .i64 a1_1] (by rfl) rfl rfl (by (try simp only [List.map_toArray, List.map_cons, List.map_nil]); first | done | rfl | (simp only [List.length_drop, List.length_take]; rfl)) ?_
            with_reducible refine (rf17_big.calls a1_1 t443 t444 t445 t446 t447 t448 _ A20.out).mono ?_
            rintro e w26 ⟨rfl, hb⟩
            refine ⟨_, rfl, ?_⟩
            have n0_ := Aside0.mk (blk_below (bk BK432.out) hb)
            have n1_ := Aside0.mk (blk_below (bk BK433.out) hb)
            have n2_ := Aside0.mk (blk_below (bk BK434.out) hb)
            have n3_ := Aside0.mk (blk_below (bk BK450.out) hb)
            have n4_ := Aside0.mk (below_step (by repeat (first | (with_reducible first | exact HB.out | apply below_alloc | apply pw_below_drewN | apply below_drew1 | refine below_set ?_ (Aside0.out (by assumption))) | exact HB.out)) hb)
            clear BK432
            clear BK433
            clear BK434
            clear BK450
            clear HB
            have BK432 := n0_
            have BK433 := n1_
            have BK434 := n2_
            have BK450 := n3_
            have HB := n4_
            clear n0_ n1_ n2_ n3_ n4_
            (try clear hb)
            (try clear hb2)
            (try clear hk)
            (try clear hi)
            refine hK.out _ _ ⟨(blk_cell BK432.out 0).trans rfl, (blk_cell BK432.out 1).trans rfl, (blk_cell BK432.out 2).trans rfl, (blk_cell BK433.out 0).trans rfl, (blk_cell BK433.out 1).trans rfl, (blk_cell BK433.out 2).trans rfl⟩ (fun hHeld => ?_)
            clear hK K
            refine norm_ (a' := ?_) ?_ ?_
            rotate_left
            ·show Act.put _ (some 29) _ = _
             simp only [Act.put, List.setIfInBounds_toArray, List.set_cons_zero, List.set_cons_succ, i64_w, i32_w]
             rfl
            exact norm_ (by first | (simp only [putAll, Act.put, List.setIfInBounds_toArray, List.set_cons_zero, List.set_cons_succ]; done) | (simp only [putAll, Act.put, List.setIfInBounds_toArray, List.set_cons_zero, List.set_cons_succ]; rfl)) (hJ2_5_7 (gb450) _ ⟨hHeld, (bk BK432.out), (bk BK433.out), (bk BK434.out), (bk BK450.out), GW450.out, GE450.out, NB432_450.out, NB450_432.out, NB433_450.out, NB450_433.out, NB434_450.out, NB450_434.out, (by repeat (first | (with_reducible first | exact HB.out | apply below_alloc | apply pw_below_drewN | apply below_drew1 | refine below_set ?_ (Aside0.out (by assumption))) | exact HB.out))⟩)
           ·skip
            refine box_step ?hg (N := 8) ?hd (cs := #[.bool false, .int .u64 0, .int .u64 0, .int .u64 0, .int .u64 0, .int .u64 0]) (t := 56) ?hr ?_; (case hd => rfl); (case hg => rfl); (case hr => first | (go_simp; done) | (go_simp; rfl))
            intro gb449 hg w26 hbox hb
            have n0_ := Aside0.mk (blk_below (bk BK432.out) hb)
            have n1_ := Aside0.mk (blk_below (bk BK433.out) hb)
            have n2_ := Aside0.mk (blk_below (bk BK434.out) hb)
            have n3_ := Aside0.mk (blk_below (bk BK450.out) hb)
            have n4_ := Aside0.mk (below_step (by repeat (first | (with_reducible first | exact HB.out | apply below_alloc | apply pw_below_drewN | apply below_drew1 | refine below_set ?_ (Aside0.out (by assumption))) | exact HB.out)) hb)
            have n5_ := Aside0.mk (hbox)
            have n6_ := Aside0.mk ((by rw [hg]; exact (below_size (by repeat (first | (with_reducible first | exact HB.out | apply below_alloc | apply pw_below_drewN | apply below_drew1 | refine below_set ?_ (Aside0.out (by assumption))) | exact HB.out))) : w.heap.size ≤ gb449))
            have n7_ := Aside0.mk ((by rw [hg]; exact (below_size (by repeat (first | (with_reducible first | exact HB.out | apply below_alloc | apply pw_below_drewN | apply below_drew1 | refine below_set ?_ (Aside0.out (by assumption))) | exact HB.out))) : w.heap.size ≤ gb449))
            have n8_ := Aside0.mk ((by rw [hg]; exact Nat.ne_of_lt (blk_lt (g := gb432) (o := .cells #[.int .u8 a0_0, .int .i64 a0_1, .string a0_2] 25 (0, 0)) (bk BK432.out)) : gb432 ≠ gb449))
            have n9_ := Aside0.mk ((by rw [hg]; exact Nat.ne_of_gt (blk_lt (g := gb432) (o := .cells #[.int .u8 a0_0, .int .i64 a0_1, .string a0_2] 25 (0, 0)) (bk BK432.out)) : gb449 ≠ gb432))
            have n10_ := Aside0.mk ((by rw [hg]; exact Nat.ne_of_lt (blk_lt (g := gb433) (o := .cells #[.int .u8 a1_0, .int .i64 a1_1, .string a1_2] 25 (0, 0)) (bk BK433.out)) : gb433 ≠ gb449))
            have n11_ := Aside0.mk ((by rw [hg]; exact Nat.ne_of_gt (blk_lt (g := gb433) (o := .cells #[.int .u8 a1_0, .int .i64 a1_1, .string a1_2] 25 (0, 0)) (bk BK433.out)) : gb449 ≠ gb433))
            have n12_ := Aside0.mk ((by rw [hg]; exact Nat.ne_of_lt (blk_lt (g := gb434) (o := .cells #[.int .u8 0, .int .i64 0, .string (⟨#[]⟩ : ByteArray)] 25 (0, 0)) (bk BK434.out)) : gb434 ≠ gb449))
            have n13_ := Aside0.mk ((by rw [hg]; exact Nat.ne_of_gt (blk_lt (g := gb434) (o := .cells #[.int .u8 0, .int .i64 0, .string (⟨#[]⟩ : ByteArray)] 25 (0, 0)) (bk BK434.out)) : gb449 ≠ gb434))
            have n14_ := Aside0.mk ((by rw [hg]; exact Nat.ne_of_lt (blk_lt (g := gb450) (o := .cells #[.bool false, .int .u64 0, .int .u64 0, .int .u64 0, .int .u64 0, .int .u64 0] 56 (0, 0)) (bk BK450.out)) : gb450 ≠ gb449))
            have n15_ := Aside0.mk ((by rw [hg]; exact Nat.ne_of_gt (blk_lt (g := gb450) (o := .cells #[.bool false, .int .u64 0, .int .u64 0, .int .u64 0, .int .u64 0, .int .u64 0] 56 (0, 0)) (bk BK450.out)) : gb449 ≠ gb450))
            clear BK432
            clear BK433
            clear BK434
            clear BK450
            clear HB
            have BK432 := n0_
            have BK433 := n1_
            have BK434 := n2_
            have BK450 := n3_
            have HB := n4_
            have BK449 := n5_
            have GW449 := n6_
            have GE449 := n7_
            have NB432_449 := n8_
            have NB449_432 := n9_
            have NB433_449 := n10_
            have NB449_433 := n11_
            have NB434_449 := n12_
            have NB449_434 := n13_
            have NB450_449 := n14_
            have NB449_450 := n15_
            clear n0_ n1_ n2_ n3_ n4_ n5_ n6_ n7_ n8_ n9_ n10_ n11_ n12_ n13_ n14_ n15_
            clear hb hbox hg
            refine hK.out _ _ ⟨(blk_cell BK432.out 0).trans rfl, (blk_cell BK432.out 1).trans rfl, (blk_cell BK432.out 2).trans rfl, (blk_cell BK433.out 0).trans rfl, (blk_cell BK433.out 1).trans rfl, (blk_cell BK433.out 2).trans rfl⟩ (fun hHeld => ?_)
            clear hK K
            refine norm_ (a' := ?_) ?_ ?_
            rotate_left
            ·show Act.put _ (some 8) _ = _
             simp only [Act.put, List.setIfInBounds_toArray, List.set_cons_zero, List.set_cons_succ, i64_w, i32_w]
             rfl
            exact norm_ (by first | (simp only [putAll, Act.put, List.setIfInBounds_toArray, List.set_cons_zero, List.set_cons_succ]; done) | (simp only [putAll, Act.put, List.setIfInBounds_toArray, List.set_cons_zero, List.set_cons_succ]; rfl)) (hJ2_6_7 (gb449, gb450) _ ⟨hHeld, (bk BK432.out), (bk BK433.out), (bk BK434.out), (bk BK449.out), (bk BK450.out), GW449.out, GE449.out, NB432_449.out, NB449_432.out, NB433_449.out, NB449_433.out, NB434_449.out, NB449_434.out, NB450_449.out, NB449_450.out, GW450.out, GE450.out, NB432_450.out, NB450_432.out, NB433_450.out, NB450_433.out, NB434_450.out, NB450_434.out, (by repeat (first | (with_reducible first | exact HB.out | apply below_alloc | apply pw_below_drewN | apply below_drew1 | refine below_set ?_ (Aside0.out (by assumption))) | exact HB.out))⟩)
         ·skip
          rintro gb449 w25 ⟨hS_, h0_, h1_, h2_, h3_, h4_, h5_, h6_, h7_, h8_, h9_, h10_, h11_, h12_⟩
          have n0_ : Aside0 (w25.heap[gb432]? = some (.cells #[.int .u8 a0_0, .int .i64 a0_1, .string a0_2] 25 (0, 0))) := ⟨h0_⟩
          have n1_ : Aside0 (w25.heap[gb433]? = some (.cells #[.int .u8 a1_0, .int .i64 a1_1, .string a1_2] 25 (0, 0))) := ⟨h1_⟩
          have n2_ : Aside0 (w25.heap[gb434]? = some (.cells #[.int .u8 0, .int .i64 0, .string (⟨#[]⟩ : ByteArray)] 25 (0, 0))) := ⟨h2_⟩
          have n3_ : Aside0 (w25.heap[gb449]? = some (.cells #[.bool false, .int .u64 0, .int .u64 0, .int .u64 0, .int .u64 0, .int .u64 0] 56 (0, 0))) := ⟨h3_⟩
          have n4_ : Aside0 (w.heap.size ≤ gb449) := ⟨h4_⟩
          have n5_ : Aside0 (w.heap.size ≤ gb449) := ⟨h5_⟩
          have n6_ : Aside0 (gb432 ≠ gb449) := ⟨h6_⟩
          have n7_ : Aside0 (gb449 ≠ gb432) := ⟨h7_⟩
          have n8_ : Aside0 (gb433 ≠ gb449) := ⟨h8_⟩
          have n9_ : Aside0 (gb449 ≠ gb433) := ⟨h9_⟩
          have n10_ : Aside0 (gb434 ≠ gb449) := ⟨h10_⟩
          have n11_ : Aside0 (gb449 ≠ gb434) := ⟨h11_⟩
          have n12_ : Aside0 (Below w.heap.size w w25) := ⟨h12_⟩
          clear BK432
          clear BK433
          clear BK434
          clear HB
          clear h0_ h1_ h2_ h3_ h4_ h5_ h6_ h7_ h8_ h9_ h10_ h11_ h12_
          have BK432 := n0_
          have BK433 := n1_
          have BK434 := n2_
          have BK449 := n3_
          have GW449 := n4_
          have GE449 := n5_
          have NB432_449 := n6_
          have NB449_432 := n7_
          have NB433_449 := n8_
          have NB449_433 := n9_
          have NB434_449 := n10_
          have NB449_434 := n11_
          have HB := n12_
          clear n0_ n1_ n2_ n3_ n4_ n5_ n6_ n7_ n8_ n9_ n10_ n11_ n12_
          have hHeld : w25.cell? ⟨gb432, 0, none⟩ = some (.int .u8 a0_0) ∧ w25.cell? ⟨gb432, 1, none⟩ = some (.int .i64 a0_1) ∧ w25.cell? ⟨gb432, 2, none⟩ = some (.string a0_2) ∧ w25.cell? ⟨gb433, 0, none⟩ = some (.int .u8 a1_0) ∧ w25.cell? ⟨gb433, 1, none⟩ = some (.int .i64 a1_1) ∧ w25.cell? ⟨gb433, 2, none⟩ = some (.string a1_2) := hS_
          refine norm_ (a' := ?_) ?_ ?_
          rotate_left
          ·simp only [putAll, Act.put, List.setIfInBounds_toArray, List.set_cons_zero, List.set_cons_succ]
           rfl
          refine two_ (i := 5) (j := 7) (Ni := some 29) (Nj := some 9) #[true, true, true, true, true, true, true, false, false, false, false] #[true, true, true, true, true, false, true, true, false, false, false] rfl rfl rfl rfl (two_of HT_.out (by kernel_rfl)) (by decide) (by decide) (fun K hK => ?_) (fun K hK => ?_)
          ·skip
           refine goes_ Tryd.func66 (by kernel_rfl) rfl #[.int .i64 a1_1] (by rfl) rfl rfl (by (try simp only [List.map_toArray, List.map_cons, List.map_nil]); first | done | rfl | (simp only [List.length_drop, List.length_take]; rfl)) ?_
           with_reducible refine (rf17_big.calls a1_1 t443 t444 t445 t446 t447 t448 _ A20.out).mono ?_
           rintro e w26 ⟨rfl, hb⟩
           refine ⟨_, rfl, ?_⟩
           have n0_ := Aside0.mk (blk_below (bk BK432.out) hb)
           have n1_ := Aside0.mk (blk_below (bk BK433.out) hb)
           have n2_ := Aside0.mk (blk_below (bk BK434.out) hb)
           have n3_ := Aside0.mk (blk_below (bk BK449.out) hb)
           have n4_ := Aside0.mk (below_step (by repeat (first | (with_reducible first | exact HB.out | apply below_alloc | apply pw_below_drewN | apply below_drew1 | refine below_set ?_ (Aside0.out (by assumption))) | exact HB.out)) hb)
           clear BK432
           clear BK433
           clear BK434
           clear BK449
           clear HB
           have BK432 := n0_
           have BK433 := n1_
           have BK434 := n2_
           have BK449 := n3_
           have HB := n4_
           clear n0_ n1_ n2_ n3_ n4_
           (try clear hb)
           (try clear hb2)
           (try clear hk)
           (try clear hi)
           refine hK.out _ _ ⟨(blk_cell BK432.out 0).trans rfl, (blk_cell BK432.out 1).trans rfl, (blk_cell BK432.out 2).trans rfl, (blk_cell BK433.out 0).trans rfl, (blk_cell BK433.out 1).trans rfl, (blk_cell BK433.out 2).trans rfl⟩ (fun hHeld => ?_)
           clear hK K
           refine norm_ (a' := ?_) ?_ ?_
           rotate_left
           ·show Act.put _ (some 29) _ = _
            simp only [Act.put, List.setIfInBounds_toArray, List.set_cons_zero, List.set_cons_succ, i64_w, i32_w]
            rfl
           exact norm_ (by first | (simp only [putAll, Act.put, List.setIfInBounds_toArray, List.set_cons_zero, List.set_cons_succ]; done) | (simp only [putAll, Act.put, List.setIfInBounds_toArray, List.set_cons_zero, List.set_cons_succ]; rfl)) (hJ2_5_6 (gb449) _ ⟨hHeld, (bk BK432.out), (bk BK433.out), (bk BK434.out), (bk BK449.out), GW449.out, GE449.out, NB432_449.out, NB449_432.out, NB433_449.out, NB449_433.out, NB434_449.out, NB449_434.out, (by repeat (first | (with_reducible first | exact HB.out | apply below_alloc | apply pw_below_drewN | apply below_drew1 | refine below_set ?_ (Aside0.out (by assumption))) | exact HB.out))⟩)
          ·skip
           refine box_step ?hg (N := 9) ?hd (cs := #[.bool false, .int .u64 0, .int .u64 0, .int .u64 0, .int .u64 0, .int .u64 0]) (t := 56) ?hr ?_; (case hd => rfl); (case hg => rfl); (case hr => first | (go_simp; done) | (go_simp; rfl))
           intro gb450 hg w26 hbox hb
           have n0_ := Aside0.mk (blk_below (bk BK432.out) hb)
           have n1_ := Aside0.mk (blk_below (bk BK433.out) hb)
           have n2_ := Aside0.mk (blk_below (bk BK434.out) hb)
           have n3_ := Aside0.mk (blk_below (bk BK449.out) hb)
           have n4_ := Aside0.mk (below_step (by repeat (first | (with_reducible first | exact HB.out | apply below_alloc | apply pw_below_drewN | apply below_drew1 | refine below_set ?_ (Aside0.out (by assumption))) | exact HB.out)) hb)
           have n5_ := Aside0.mk (hbox)
           have n6_ := Aside0.mk ((by rw [hg]; exact (below_size (by repeat (first | (with_reducible first | exact HB.out | apply below_alloc | apply pw_below_drewN | apply below_drew1 | refine below_set ?_ (Aside0.out (by assumption))) | exact HB.out))) : w.heap.size ≤ gb450))
           have n7_ := Aside0.mk ((by rw [hg]; exact (below_size (by repeat (first | (with_reducible first | exact HB.out | apply below_alloc | apply pw_below_drewN | apply below_drew1 | refine below_set ?_ (Aside0.out (by assumption))) | exact HB.out))) : w.heap.size ≤ gb450))
           have n8_ := Aside0.mk ((by rw [hg]; exact Nat.ne_of_lt (blk_lt (g := gb432) (o := .cells #[.int .u8 a0_0, .int .i64 a0_1, .string a0_2] 25 (0, 0)) (bk BK432.out)) : gb432 ≠ gb450))
           have n9_ := Aside0.mk ((by rw [hg]; exact Nat.ne_of_gt (blk_lt (g := gb432) (o := .cells #[.int .u8 a0_0, .int .i64 a0_1, .string a0_2] 25 (0, 0)) (bk BK432.out)) : gb450 ≠ gb432))
           have n10_ := Aside0.mk ((by rw [hg]; exact Nat.ne_of_lt (blk_lt (g := gb433) (o := .cells #[.int .u8 a1_0, .int .i64 a1_1, .string a1_2] 25 (0, 0)) (bk BK433.out)) : gb433 ≠ gb450))
           have n11_ := Aside0.mk ((by rw [hg]; exact Nat.ne_of_gt (blk_lt (g := gb433) (o := .cells #[.int .u8 a1_0, .int .i64 a1_1, .string a1_2] 25 (0, 0)) (bk BK433.out)) : gb450 ≠ gb433))
           have n12_ := Aside0.mk ((by rw [hg]; exact Nat.ne_of_lt (blk_lt (g := gb434) (o := .cells #[.int .u8 0, .int .i64 0, .string (⟨#[]⟩ : ByteArray)] 25 (0, 0)) (bk BK434.out)) : gb434 ≠ gb450))
           have n13_ := Aside0.mk ((by rw [hg]; exact Nat.ne_of_gt (blk_lt (g := gb434) (o := .cells #[.int .u8 0, .int .i64 0, .string (⟨#[]⟩ : ByteArray)] 25 (0, 0)) (bk BK434.out)) : gb450 ≠ gb434))
           have n14_ := Aside0.mk ((by rw [hg]; exact Nat.ne_of_lt (blk_lt (g := gb449) (o := .cells #[.bool false, .int .u64 0, .int .u64 0, .int .u64 0, .int .u64 0, .int .u64 0] 56 (0, 0)) (bk BK449.out)) : gb449 ≠ gb450))
           have n15_ := Aside0.mk ((by rw [hg]; exact Nat.ne_of_gt (blk_lt (g := gb449) (o := .cells #[.bool false, .int .u64 0, .int .u64 0, .int .u64 0, .int .u64 0, .int .u64 0] 56 (0, 0)) (bk BK449.out)) : gb450 ≠ gb449))
           clear BK432
           clear BK433
           clear BK434
           clear BK449
           clear HB
           have BK432 := n0_
           have BK433 := n1_
           have BK434 := n2_
           have BK449 := n3_
           have HB := n4_
           have BK450 := n5_
           have GW450 := n6_
           have GE450 := n7_
           have NB432_450 := n8_
           have NB450_432 := n9_
           have NB433_450 := n10_
           have NB450_433 := n11_
           have NB434_450 := n12_
           have NB450_434 := n13_
           have NB449_450 := n14_
           have NB450_449 := n15_
           clear n0_ n1_ n2_ n3_ n4_ n5_ n6_ n7_ n8_ n9_ n10_ n11_ n12_ n13_ n14_ n15_
           clear hb hbox hg
           refine hK.out _ _ ⟨(blk_cell BK432.out 0).trans rfl, (blk_cell BK432.out 1).trans rfl, (blk_cell BK432.out 2).trans rfl, (blk_cell BK433.out 0).trans rfl, (blk_cell BK433.out 1).trans rfl, (blk_cell BK433.out 2).trans rfl⟩ (fun hHeld => ?_)
           clear hK K
           refine norm_ (a' := ?_) ?_ ?_
           rotate_left
           ·show Act.put _ (some 9) _ = _
            simp only [Act.put, List.setIfInBounds_toArray, List.set_cons_zero, List.set_cons_succ, i64_w, i32_w]
            rfl
           exact norm_ (by first | (simp only [putAll, Act.put, List.setIfInBounds_toArray, List.set_cons_zero, List.set_cons_succ]; done) | (simp only [putAll, Act.put, List.setIfInBounds_toArray, List.set_cons_zero, List.set_cons_succ]; rfl)) (hJ2_6_7 (gb449, gb450) _ ⟨hHeld, (bk BK432.out), (bk BK433.out), (bk BK434.out), (bk BK449.out), (bk BK450.out), GW449.out, GE449.out, NB432_449.out, NB449_432.out, NB433_449.out, NB449_433.out, NB434_449.out, NB449_434.out, NB450_449.out, NB449_450.out, GW450.out, GE450.out, NB432_450.out, NB450_432.out, NB433_450.out, NB450_433.out, NB434_450.out, NB450_434.out, (by repeat (first | (with_reducible first | exact HB.out | apply below_alloc | apply pw_below_drewN | apply below_drew1 | refine below_set ?_ (Aside0.out (by assumption))) | exact HB.out))⟩)
        ·skip
         rintro _ w25 ⟨hS_, h0_, h1_, h2_, h3_⟩
         have n0_ : Aside0 (w25.heap[gb432]? = some (.cells #[.int .u8 a0_0, .int .i64 a0_1, .string a0_2] 25 (0, 0))) := ⟨h0_⟩
         have n1_ : Aside0 (w25.heap[gb433]? = some (.cells #[.int .u8 a1_0, .int .i64 a1_1, .string a1_2] 25 (0, 0))) := ⟨h1_⟩
         have n2_ : Aside0 (w25.heap[gb434]? = some (.cells #[.int .u8 0, .int .i64 0, .string (⟨#[]⟩ : ByteArray)] 25 (0, 0))) := ⟨h2_⟩
         have n3_ : Aside0 (Below w.heap.size w w25) := ⟨h3_⟩
         clear BK432
         clear BK433
         clear BK434
         clear HB
         clear h0_ h1_ h2_ h3_
         have BK432 := n0_
         have BK433 := n1_
         have BK434 := n2_
         have HB := n3_
         clear n0_ n1_ n2_ n3_
         have hHeld : w25.cell? ⟨gb432, 0, none⟩ = some (.int .u8 a0_0) ∧ w25.cell? ⟨gb432, 1, none⟩ = some (.int .i64 a0_1) ∧ w25.cell? ⟨gb432, 2, none⟩ = some (.string a0_2) ∧ w25.cell? ⟨gb433, 0, none⟩ = some (.int .u8 a1_0) ∧ w25.cell? ⟨gb433, 1, none⟩ = some (.int .i64 a1_1) ∧ w25.cell? ⟨gb433, 2, none⟩ = some (.string a1_2) := hS_
         refine norm_ (a' := ?_) ?_ ?_
         rotate_left
         ·simp only [putAll, Act.put, List.setIfInBounds_toArray, List.set_cons_zero, List.set_cons_succ]
          rfl
         refine two_ (i := 6) (j := 7) (Ni := some 8) (Nj := some 9) #[true, true, true, true, true, true, true, false, false, false, false] #[true, true, true, true, true, true, false, true, false, false, false] rfl rfl rfl rfl (two_of HT_.out (by kernel_rfl)) (by decide) (by decide) (fun K hK => ?_) (fun K hK => ?_)
         ·skip
          refine box_step ?hg (N := 8) ?hd (cs := #[.bool false, .int .u64 0, .int .u64 0, .int .u64 0, .int .u64 0, .int .u64 0]) (t := 56) ?hr ?_; (case hd => rfl); (case hg => rfl); (case hr => first | (go_simp; done) | (go_simp; rfl))
          intro gb449 hg w26 hbox hb
          have n0_ := Aside0.mk (blk_below (bk BK432.out) hb)
          have n1_ := Aside0.mk (blk_below (bk BK433.out) hb)
          have n2_ := Aside0.mk (blk_below (bk BK434.out) hb)
          have n3_ := Aside0.mk (below_step (by repeat (first | (with_reducible first | exact HB.out | apply below_alloc | apply pw_below_drewN | apply below_drew1 | refine below_set ?_ (Aside0.out (by assumption))) | exact HB.out)) hb)
          have n4_ := Aside0.mk (hbox)
          have n5_ := Aside0.mk ((by rw [hg]; exact (below_size (by repeat (first | (with_reducible first | exact HB.out | apply below_alloc | apply pw_below_drewN | apply below_drew1 | refine below_set ?_ (Aside0.out (by assumption))) | exact HB.out))) : w.heap.size ≤ gb449))
          have n6_ := Aside0.mk ((by rw [hg]; exact (below_size (by repeat (first | (with_reducible first | exact HB.out | apply below_alloc | apply pw_below_drewN | apply below_drew1 | refine below_set ?_ (Aside0.out (by assumption))) | exact HB.out))) : w.heap.size ≤ gb449))
          have n7_ := Aside0.mk ((by rw [hg]; exact Nat.ne_of_lt (blk_lt (g := gb432) (o := .cells #[.int .u8 a0_0, .int .i64 a0_1, .string a0_2] 25 (0, 0)) (bk BK432.out)) : gb432 ≠ gb449))
          have n8_ := Aside0.mk ((by rw [hg]; exact Nat.ne_of_gt (blk_lt (g := gb432) (o := .cells #[.int .u8 a0_0, .int .i64 a0_1, .string a0_2] 25 (0, 0)) (bk BK432.out)) : gb449 ≠ gb432))
          have n9_ := Aside0.mk ((by rw [hg]; exact Nat.ne_of_lt (blk_lt (g := gb433) (o := .cells #[.int .u8 a1_0, .int .i64 a1_1, .string a1_2] 25 (0, 0)) (bk BK433.out)) : gb433 ≠ gb449))
          have n10_ := Aside0.mk ((by rw [hg]; exact Nat.ne_of_gt (blk_lt (g := gb433) (o := .cells #[.int .u8 a1_0, .int .i64 a1_1, .string a1_2] 25 (0, 0)) (bk BK433.out)) : gb449 ≠ gb433))
          have n11_ := Aside0.mk ((by rw [hg]; exact Nat.ne_of_lt (blk_lt (g := gb434) (o := .cells #[.int .u8 0, .int .i64 0, .string (⟨#[]⟩ : ByteArray)] 25 (0, 0)) (bk BK434.out)) : gb434 ≠ gb449))
          have n12_ := Aside0.mk ((by rw [hg]; exact Nat.ne_of_gt (blk_lt (g := gb434) (o := .cells #[.int .u8 0, .int .i64 0, .string (⟨#[]⟩ : ByteArray)] 25 (0, 0)) (bk BK434.out)) : gb449 ≠ gb434))
          clear BK432
          clear BK433
          clear BK434
          clear HB
          have BK432 := n0_
          have BK433 := n1_
          have BK434 := n2_
          have HB := n3_
          have BK449 := n4_
          have GW449 := n5_
          have GE449 := n6_
          have NB432_449 := n7_
          have NB449_432 := n8_
          have NB433_449 := n9_
          have NB449_433 := n10_
          have NB434_449 := n11_
          have NB449_434 := n12_
          clear n0_ n1_ n2_ n3_ n4_ n5_ n6_ n7_ n8_ n9_ n10_ n11_ n12_
          clear hb hbox hg
          refine hK.out _ _ ⟨(blk_cell BK432.out 0).trans rfl, (blk_cell BK432.out 1).trans rfl, (blk_cell BK432.out 2).trans rfl, (blk_cell BK433.out 0).trans rfl, (blk_cell BK433.out 1).trans rfl, (blk_cell BK433.out 2).trans rfl⟩ (fun hHeld => ?_)
          clear hK K
          refine norm_ (a' := ?_) ?_ ?_
          rotate_left
          ·show Act.put _ (some 8) _ = _
           simp only [Act.put, List.setIfInBounds_toArray, List.set_cons_zero, List.set_cons_succ, i64_w, i32_w]
           rfl
          exact norm_ (by first | (simp only [putAll, Act.put, List.setIfInBounds_toArray, List.set_cons_zero, List.set_cons_succ]; done) | (simp only [putAll, Act.put, List.setIfInBounds_toArray, List.set_cons_zero, List.set_cons_succ]; rfl)) (hJ2_5_6 (gb449) _ ⟨hHeld, (bk BK432.out), (bk BK433.out), (bk BK434.out), (bk BK449.out), GW449.out, GE449.out, NB432_449.out, NB449_432.out, NB433_449.out, NB449_433.out, NB434_449.out, NB449_434.out, (by repeat (first | (with_reducible first | exact HB.out | apply below_alloc | apply pw_below_drewN | apply below_drew1 | refine below_set ?_ (Aside0.out (by assumption))) | exact HB.out))⟩)
         ·skip
          refine box_step ?hg (N := 9) ?hd (cs := #[.bool false, .int .u64 0, .int .u64 0, .int .u64 0, .int .u64 0, .int .u64 0]) (t := 56) ?hr ?_; (case hd => rfl); (case hg => rfl); (case hr => first | (go_simp; done) | (go_simp; rfl))
          intro gb450 hg w26 hbox hb
          have n0_ := Aside0.mk (blk_below (bk BK432.out) hb)
          have n1_ := Aside0.mk (blk_below (bk BK433.out) hb)
          have n2_ := Aside0.mk (blk_below (bk BK434.out) hb)
          have n3_ := Aside0.mk (below_step (by repeat (first | (with_reducible first | exact HB.out | apply below_alloc | apply pw_below_drewN | apply below_drew1 | refine below_set ?_ (Aside0.out (by assumption))) | exact HB.out)) hb)
          have n4_ := Aside0.mk (hbox)
          have n5_ := Aside0.mk ((by rw [hg]; exact (below_size (by repeat (first | (with_reducible first | exact HB.out | apply below_alloc | apply pw_below_drewN | apply below_drew1 | refine below_set ?_ (Aside0.out (by assumption))) | exact HB.out))) : w.heap.size ≤ gb450))
          have n6_ := Aside0.mk ((by rw [hg]; exact (below_size (by repeat (first | (with_reducible first | exact HB.out | apply below_alloc | apply pw_below_drewN | apply below_drew1 | refine below_set ?_ (Aside0.out (by assumption))) | exact HB.out))) : w.heap.size ≤ gb450))
          have n7_ := Aside0.mk ((by rw [hg]; exact Nat.ne_of_lt (blk_lt (g := gb432) (o := .cells #[.int .u8 a0_0, .int .i64 a0_1, .string a0_2] 25 (0, 0)) (bk BK432.out)) : gb432 ≠ gb450))
          have n8_ := Aside0.mk ((by rw [hg]; exact Nat.ne_of_gt (blk_lt (g := gb432) (o := .cells #[.int .u8 a0_0, .int .i64 a0_1, .string a0_2] 25 (0, 0)) (bk BK432.out)) : gb450 ≠ gb432))
          have n9_ := Aside0.mk ((by rw [hg]; exact Nat.ne_of_lt (blk_lt (g := gb433) (o := .cells #[.int .u8 a1_0, .int .i64 a1_1, .string a1_2] 25 (0, 0)) (bk BK433.out)) : gb433 ≠ gb450))
          have n10_ := Aside0.mk ((by rw [hg]; exact Nat.ne_of_gt (blk_lt (g := gb433) (o := .cells #[.int .u8 a1_0, .int .i64 a1_1, .string a1_2] 25 (0, 0)) (bk BK433.out)) : gb450 ≠ gb433))
          have n11_ := Aside0.mk ((by rw [hg]; exact Nat.ne_of_lt (blk_lt (g := gb434) (o := .cells #[.int .u8 0, .int .i64 0, .string (⟨#[]⟩ : ByteArray)] 25 (0, 0)) (bk BK434.out)) : gb434 ≠ gb450))
          have n12_ := Aside0.mk ((by rw [hg]; exact Nat.ne_of_gt (blk_lt (g := gb434) (o := .cells #[.int .u8 0, .int .i64 0, .string (⟨#[]⟩ : ByteArray)] 25 (0, 0)) (bk BK434.out)) : gb450 ≠ gb434))
          clear BK432
          clear BK433
          clear BK434
          clear HB
          have BK432 := n0_
          have BK433 := n1_
          have BK434 := n2_
          have HB := n3_
          have BK450 := n4_
          have GW450 := n5_
          have GE450 := n6_
          have NB432_450 := n7_
          have NB450_432 := n8_
          have NB433_450 := n9_
          have NB450_433 := n10_
          have NB434_450 := n11_
          have NB450_434 := n12_
          clear n0_ n1_ n2_ n3_ n4_ n5_ n6_ n7_ n8_ n9_ n10_ n11_ n12_
          clear hb hbox hg
          refine hK.out _ _ ⟨(blk_cell BK432.out 0).trans rfl, (blk_cell BK432.out 1).trans rfl, (blk_cell BK432.out 2).trans rfl, (blk_cell BK433.out 0).trans rfl, (blk_cell BK433.out 1).trans rfl, (blk_cell BK433.out 2).trans rfl⟩ (fun hHeld => ?_)
          clear hK K
          refine norm_ (a' := ?_) ?_ ?_
          rotate_left
          ·show Act.put _ (some 9) _ = _
           simp only [Act.put, List.setIfInBounds_toArray, List.set_cons_zero, List.set_cons_succ, i64_w, i32_w]
           rfl
          exact norm_ (by first | (simp only [putAll, Act.put, List.setIfInBounds_toArray, List.set_cons_zero, List.set_cons_succ]; done) | (simp only [putAll, Act.put, List.setIfInBounds_toArray, List.set_cons_zero, List.set_cons_succ]; rfl)) (hJ2_5_7 (gb450) _ ⟨hHeld, (bk BK432.out), (bk BK433.out), (bk BK434.out), (bk BK450.out), GW450.out, GE450.out, NB432_450.out, NB450_432.out, NB433_450.out, NB450_433.out, NB434_450.out, NB450_434.out, (by repeat (first | (with_reducible first | exact HB.out | apply below_alloc | apply pw_below_drewN | apply below_drew1 | refine below_set ?_ (Aside0.out (by assumption))) | exact HB.out))⟩)
       ·skip
        rintro ⟨gb449, gb450⟩ w26 ⟨hS_, h0_, h1_, h2_, h3_, h4_, h5_, h6_, h7_, h8_, h9_, h10_, h11_, h12_, h13_, h14_, h15_, h16_, h17_, h18_, h19_, h20_, h21_, h22_, h23_⟩
        have n0_ : Aside0 (w26.heap[gb432]? = some (.cells #[.int .u8 a0_0, .int .i64 a0_1, .string a0_2] 25 (0, 0))) := ⟨h0_⟩
        have n1_ : Aside0 (w26.heap[gb433]? = some (.cells #[.int .u8 a1_0, .int .i64 a1_1, .string a1_2] 25 (0, 0))) := ⟨h1_⟩
        have n2_ : Aside0 (w26.heap[gb434]? = some (.cells #[.int .u8 0, .int .i64 0, .string (⟨#[]⟩ : ByteArray)] 25 (0, 0))) := ⟨h2_⟩
        have n3_ : Aside0 (w26.heap[gb449]? = some (.cells #[.bool false, .int .u64 0, .int .u64 0, .int .u64 0, .int .u64 0, .int .u64 0] 56 (0, 0))) := ⟨h3_⟩
        have n4_ : Aside0 (w26.heap[gb450]? = some (.cells #[.bool false, .int .u64 0, .int .u64 0, .int .u64 0, .int .u64 0, .int .u64 0] 56 (0, 0))) := ⟨h4_⟩
        have n5_ : Aside0 (w.heap.size ≤ gb449) := ⟨h5_⟩
        have n6_ : Aside0 (w.heap.size ≤ gb449) := ⟨h6_⟩
        have n7_ : Aside0 (gb432 ≠ gb449) := ⟨h7_⟩
        have n8_ : Aside0 (gb449 ≠ gb432) := ⟨h8_⟩
        have n9_ : Aside0 (gb433 ≠ gb449) := ⟨h9_⟩
        have n10_ : Aside0 (gb449 ≠ gb433) := ⟨h10_⟩
        have n11_ : Aside0 (gb434 ≠ gb449) := ⟨h11_⟩
        have n12_ : Aside0 (gb449 ≠ gb434) := ⟨h12_⟩
        have n13_ : Aside0 (gb450 ≠ gb449) := ⟨h13_⟩
        have n14_ : Aside0 (gb449 ≠ gb450) := ⟨h14_⟩
        have n15_ : Aside0 (w.heap.size ≤ gb450) := ⟨h15_⟩
        have n16_ : Aside0 (w.heap.size ≤ gb450) := ⟨h16_⟩
        have n17_ : Aside0 (gb432 ≠ gb450) := ⟨h17_⟩
        have n18_ : Aside0 (gb450 ≠ gb432) := ⟨h18_⟩
        have n19_ : Aside0 (gb433 ≠ gb450) := ⟨h19_⟩
        have n20_ : Aside0 (gb450 ≠ gb433) := ⟨h20_⟩
        have n21_ : Aside0 (gb434 ≠ gb450) := ⟨h21_⟩
        have n22_ : Aside0 (gb450 ≠ gb434) := ⟨h22_⟩
        have n23_ : Aside0 (Below w.heap.size w w26) := ⟨h23_⟩
        clear BK432
        clear BK433
        clear BK434
        clear HB
        clear h0_ h1_ h2_ h3_ h4_ h5_ h6_ h7_ h8_ h9_ h10_ h11_ h12_ h13_ h14_ h15_ h16_ h17_ h18_ h19_ h20_ h21_ h22_ h23_
        have BK432 := n0_
        have BK433 := n1_
        have BK434 := n2_
        have BK449 := n3_
        have BK450 := n4_
        have GW449 := n5_
        have GE449 := n6_
        have NB432_449 := n7_
        have NB449_432 := n8_
        have NB433_449 := n9_
        have NB449_433 := n10_
        have NB434_449 := n11_
        have NB449_434 := n12_
        have NB450_449 := n13_
        have NB449_450 := n14_
        have GW450 := n15_
        have GE450 := n16_
        have NB432_450 := n17_
        have NB450_432 := n18_
        have NB433_450 := n19_
        have NB450_433 := n20_
        have NB434_450 := n21_
        have NB450_434 := n22_
        have HB := n23_
        clear n0_ n1_ n2_ n3_ n4_ n5_ n6_ n7_ n8_ n9_ n10_ n11_ n12_ n13_ n14_ n15_ n16_ n17_ n18_ n19_ n20_ n21_ n22_ n23_
        have hHeld : w26.cell? ⟨gb432, 0, none⟩ = some (.int .u8 a0_0) ∧ w26.cell? ⟨gb432, 1, none⟩ = some (.int .i64 a0_1) ∧ w26.cell? ⟨gb432, 2, none⟩ = some (.string a0_2) ∧ w26.cell? ⟨gb433, 0, none⟩ = some (.int .u8 a1_0) ∧ w26.cell? ⟨gb433, 1, none⟩ = some (.int .i64 a1_1) ∧ w26.cell? ⟨gb433, 2, none⟩ = some (.string a1_2) := hS_
        refine norm_ (a' := ?_) ?_ ?_
        rotate_left
        ·simp only [putAll, Act.put, List.setIfInBounds_toArray, List.set_cons_zero, List.set_cons_succ]
         rfl
        refine one_ (i := 5) (N := some 29) #[true, true, true, true, true, true, true, true, false, false, false] rfl rfl (one_of HT_.out (by kernel_rfl)) (by decide) (fun K hK => ?_)
        refine goes_ Tryd.func66 (by kernel_rfl) rfl #[.int .i64 a1_1] (by rfl) rfl rfl (by (try simp only [List.map_toArray, List.map_cons, List.map_nil]); first | done | rfl | (simp only [List.length_drop, List.length_take]; rfl)) ?_
        with_reducible refine (rf17_big.calls a1_1 t443 t444 t445 t446 t447 t448 _ A20.out).mono ?_
        rintro e w27 ⟨rfl, hb⟩
        refine ⟨_, rfl, ?_⟩
        have n0_ := Aside0.mk (blk_below (bk BK432.out) hb)
        have n1_ := Aside0.mk (blk_below (bk BK433.out) hb)
        have n2_ := Aside0.mk (blk_below (bk BK434.out) hb)
        have n3_ := Aside0.mk (blk_below (bk BK449.out) hb)
        have n4_ := Aside0.mk (blk_below (bk BK450.out) hb)
        have n5_ := Aside0.mk (below_step (by repeat (first | (with_reducible first | exact HB.out | apply below_alloc | apply pw_below_drewN | apply below_drew1 | refine below_set ?_ (Aside0.out (by assumption))) | exact HB.out)) hb)
        clear BK432
        clear BK433
        clear BK434
        clear BK449
        clear BK450
        clear HB
        have BK432 := n0_
        have BK433 := n1_
        have BK434 := n2_
        have BK449 := n3_
        have BK450 := n4_
        have HB := n5_
        clear n0_ n1_ n2_ n3_ n4_ n5_
        (try clear hb)
        (try clear hb2)
        (try clear hk)
        (try clear hi)
        refine hK.out _ _ ⟨(blk_cell BK432.out 0).trans rfl, (blk_cell BK432.out 1).trans rfl, (blk_cell BK432.out 2).trans rfl, (blk_cell BK433.out 0).trans rfl, (blk_cell BK433.out 1).trans rfl, (blk_cell BK433.out 2).trans rfl⟩ (fun hHeld => ?_)
        clear hK K
        refine norm_ (a' := ?_) ?_ ?_
        rotate_left
        ·show Act.put _ (some 29) _ = _
         simp only [Act.put, List.setIfInBounds_toArray, List.set_cons_zero, List.set_cons_succ, i64_w, i32_w]
         rfl
        exact norm_ (by first | (simp only [putAll, Act.put, List.setIfInBounds_toArray, List.set_cons_zero, List.set_cons_succ]; done) | (simp only [putAll, Act.put, List.setIfInBounds_toArray, List.set_cons_zero, List.set_cons_succ]; rfl)) (hJ2_5_6_7 (gb449, gb450) _ ⟨hHeld, (bk BK432.out), (bk BK433.out), (bk BK434.out), (bk BK449.out), (bk BK450.out), GW449.out, GE449.out, NB432_449.out, NB449_432.out, NB433_449.out, NB449_433.out, NB434_449.out, NB449_434.out, NB450_449.out, NB449_450.out, GW450.out, GE450.out, NB432_450.out, NB450_432.out, NB433_450.out, NB450_433.out, NB434_450.out, NB450_434.out, (by repeat (first | (with_reducible first | exact HB.out | apply below_alloc | apply pw_below_drewN | apply below_drew1 | refine below_set ?_ (Aside0.out (by assumption))) | exact HB.out))⟩)
      ·skip
       rintro gb450 w26 ⟨hS_, h0_, h1_, h2_, h3_, h4_, h5_, h6_, h7_, h8_, h9_, h10_, h11_, h12_⟩
       have n0_ : Aside0 (w26.heap[gb432]? = some (.cells #[.int .u8 a0_0, .int .i64 a0_1, .string a0_2] 25 (0, 0))) := ⟨h0_⟩
       have n1_ : Aside0 (w26.heap[gb433]? = some (.cells #[.int .u8 a1_0, .int .i64 a1_1, .string a1_2] 25 (0, 0))) := ⟨h1_⟩
       have n2_ : Aside0 (w26.heap[gb434]? = some (.cells #[.int .u8 0, .int .i64 0, .string (⟨#[]⟩ : ByteArray)] 25 (0, 0))) := ⟨h2_⟩
       have n3_ : Aside0 (w26.heap[gb450]? = some (.cells #[.bool false, .int .u64 0, .int .u64 0, .int .u64 0, .int .u64 0, .int .u64 0] 56 (0, 0))) := ⟨h3_⟩
       have n4_ : Aside0 (w.heap.size ≤ gb450) := ⟨h4_⟩
       have n5_ : Aside0 (w.heap.size ≤ gb450) := ⟨h5_⟩
       have n6_ : Aside0 (gb432 ≠ gb450) := ⟨h6_⟩
       have n7_ : Aside0 (gb450 ≠ gb432) := ⟨h7_⟩
       have n8_ : Aside0 (gb433 ≠ gb450) := ⟨h8_⟩
       have n9_ : Aside0 (gb450 ≠ gb433) := ⟨h9_⟩
       have n10_ : Aside0 (gb434 ≠ gb450) := ⟨h10_⟩
       have n11_ : Aside0 (gb450 ≠ gb434) := ⟨h11_⟩
       have n12_ : Aside0 (Below w.heap.size w w26) := ⟨h12_⟩
       clear BK432
       clear BK433
       clear BK434
       clear HB
       clear h0_ h1_ h2_ h3_ h4_ h5_ h6_ h7_ h8_ h9_ h10_ h11_ h12_
       have BK432 := n0_
       have BK433 := n1_
       have BK434 := n2_
       have BK450 := n3_
       have GW450 := n4_
       have GE450 := n5_
       have NB432_450 := n6_
       have NB450_432 := n7_
       have NB433_450 := n8_
       have NB450_433 := n9_
       have NB434_450 := n10_
       have NB450_434 := n11_
       have HB := n12_
       clear n0_ n1_ n2_ n3_ n4_ n5_ n6_ n7_ n8_ n9_ n10_ n11_ n12_
       have hHeld : w26.cell? ⟨gb432, 0, none⟩ = some (.int .u8 a0_0) ∧ w26.cell? ⟨gb432, 1, none⟩ = some (.int .i64 a0_1) ∧ w26.cell? ⟨gb432, 2, none⟩ = some (.string a0_2) ∧ w26.cell? ⟨gb433, 0, none⟩ = some (.int .u8 a1_0) ∧ w26.cell? ⟨gb433, 1, none⟩ = some (.int .i64 a1_1) ∧ w26.cell? ⟨gb433, 2, none⟩ = some (.string a1_2) := hS_
       refine norm_ (a' := ?_) ?_ ?_
       rotate_left
       ·simp only [putAll, Act.put, List.setIfInBounds_toArray, List.set_cons_zero, List.set_cons_succ]
        rfl
       refine one_ (i := 6) (N := some 8) #[true, true, true, true, true, true, true, true, false, false, false] rfl rfl (one_of HT_.out (by kernel_rfl)) (by decide) (fun K hK => ?_)
       refine box_step ?hg (N := 8) ?hd (cs := #[.bool false, .int .u64 0, .int .u64 0, .int .u64 0, .int .u64 0, .int .u64 0]) (t := 56) ?hr ?_; (case hd => rfl); (case hg => rfl); (case hr => first | (go_simp; done) | (go_simp; rfl))
       intro gb449 hg w27 hbox hb
       have n0_ := Aside0.mk (blk_below (bk BK432.out) hb)
       have n1_ := Aside0.mk (blk_below (bk BK433.out) hb)
       have n2_ := Aside0.mk (blk_below (bk BK434.out) hb)
       have n3_ := Aside0.mk (blk_below (bk BK450.out) hb)
       have n4_ := Aside0.mk (below_step (by repeat (first | (with_reducible first | exact HB.out | apply below_alloc | apply pw_below_drewN | apply below_drew1 | refine below_set ?_ (Aside0.out (by assumption))) | exact HB.out)) hb)
       have n5_ := Aside0.mk (hbox)
       have n6_ := Aside0.mk ((by rw [hg]; exact (below_size (by repeat (first | (with_reducible first | exact HB.out | apply below_alloc | apply pw_below_drewN | apply below_drew1 | refine below_set ?_ (Aside0.out (by assumption))) | exact HB.out))) : w.heap.size ≤ gb449))
       have n7_ := Aside0.mk ((by rw [hg]; exact (below_size (by repeat (first | (with_reducible first | exact HB.out | apply below_alloc | apply pw_below_drewN | apply below_drew1 | refine below_set ?_ (Aside0.out (by assumption))) | exact HB.out))) : w.heap.size ≤ gb449))
       have n8_ := Aside0.mk ((by rw [hg]; exact Nat.ne_of_lt (blk_lt (g := gb432) (o := .cells #[.int .u8 a0_0, .int .i64 a0_1, .string a0_2] 25 (0, 0)) (bk BK432.out)) : gb432 ≠ gb449))
       have n9_ := Aside0.mk ((by rw [hg]; exact Nat.ne_of_gt (blk_lt (g := gb432) (o := .cells #[.int .u8 a0_0, .int .i64 a0_1, .string a0_2] 25 (0, 0)) (bk BK432.out)) : gb449 ≠ gb432))
       have n10_ := Aside0.mk ((by rw [hg]; exact Nat.ne_of_lt (blk_lt (g := gb433) (o := .cells #[.int .u8 a1_0, .int .i64 a1_1, .string a1_2] 25 (0, 0)) (bk BK433.out)) : gb433 ≠ gb449))
       have n11_ := Aside0.mk ((by rw [hg]; exact Nat.ne_of_gt (blk_lt (g := gb433) (o := .cells #[.int .u8 a1_0, .int .i64 a1_1, .string a1_2] 25 (0, 0)) (bk BK433.out)) : gb449 ≠ gb433))
       have n12_ := Aside0.mk ((by rw [hg]; exact Nat.ne_of_lt (blk_lt (g := gb434) (o := .cells #[.int .u8 0, .int .i64 0, .string (⟨#[]⟩ : ByteArray)] 25 (0, 0)) (bk BK434.out)) : gb434 ≠ gb449))
       have n13_ := Aside0.mk ((by rw [hg]; exact Nat.ne_of_gt (blk_lt (g := gb434) (o := .cells #[.int .u8 0, .int .i64 0, .string (⟨#[]⟩ : ByteArray)] 25 (0, 0)) (bk BK434.out)) : gb449 ≠ gb434))
       have n14_ := Aside0.mk ((by rw [hg]; exact Nat.ne_of_lt (blk_lt (g := gb450) (o := .cells #[.bool false, .int .u64 0, .int .u64 0, .int .u64 0, .int .u64 0, .int .u64 0] 56 (0, 0)) (bk BK450.out)) : gb450 ≠ gb449))
       have n15_ := Aside0.mk ((by rw [hg]; exact Nat.ne_of_gt (blk_lt (g := gb450) (o := .cells #[.bool false, .int .u64 0, .int .u64 0, .int .u64 0, .int .u64 0, .int .u64 0] 56 (0, 0)) (bk BK450.out)) : gb449 ≠ gb450))
       clear BK432
       clear BK433
       clear BK434
       clear BK450
       clear HB
       have BK432 := n0_
       have BK433 := n1_
       have BK434 := n2_
       have BK450 := n3_
       have HB := n4_
       have BK449 := n5_
       have GW449 := n6_
       have GE449 := n7_
       have NB432_449 := n8_
       have NB449_432 := n9_
       have NB433_449 := n10_
       have NB449_433 := n11_
       have NB434_449 := n12_
       have NB449_434 := n13_
       have NB450_449 := n14_
       have NB449_450 := n15_
       clear n0_ n1_ n2_ n3_ n4_ n5_ n6_ n7_ n8_ n9_ n10_ n11_ n12_ n13_ n14_ n15_
       clear hb hbox hg
       refine hK.out _ _ ⟨(blk_cell BK432.out 0).trans rfl, (blk_cell BK432.out 1).trans rfl, (blk_cell BK432.out 2).trans rfl, (blk_cell BK433.out 0).trans rfl, (blk_cell BK433.out 1).trans rfl, (blk_cell BK433.out 2).trans rfl⟩ (fun hHeld => ?_)
       clear hK K
       refine norm_ (a' := ?_) ?_ ?_
       rotate_left
       ·show Act.put _ (some 8) _ = _
        simp only [Act.put, List.setIfInBounds_toArray, List.set_cons_zero, List.set_cons_succ, i64_w, i32_w]
        rfl
       exact norm_ (by first | (simp only [putAll, Act.put, List.setIfInBounds_toArray, List.set_cons_zero, List.set_cons_succ]; done) | (simp only [putAll, Act.put, List.setIfInBounds_toArray, List.set_cons_zero, List.set_cons_succ]; rfl)) (hJ2_5_6_7 (gb449, gb450) _ ⟨hHeld, (bk BK432.out), (bk BK433.out), (bk BK434.out), (bk BK449.out), (bk BK450.out), GW449.out, GE449.out, NB432_449.out, NB449_432.out, NB433_449.out, NB449_433.out, NB434_449.out, NB449_434.out, NB450_449.out, NB449_450.out, GW450.out, GE450.out, NB432_450.out, NB450_432.out, NB433_450.out, NB450_433.out, NB434_450.out, NB450_434.out, (by repeat (first | (with_reducible first | exact HB.out | apply below_alloc | apply pw_below_drewN | apply below_drew1 | refine below_set ?_ (Aside0.out (by assumption))) | exact HB.out))⟩)
     ·skip
      rintro gb449 w26 ⟨hS_, h0_, h1_, h2_, h3_, h4_, h5_, h6_, h7_, h8_, h9_, h10_, h11_, h12_⟩
      have n0_ : Aside0 (w26.heap[gb432]? = some (.cells #[.int .u8 a0_0, .int .i64 a0_1, .string a0_2] 25 (0, 0))) := ⟨h0_⟩
      have n1_ : Aside0 (w26.heap[gb433]? = some (.cells #[.int .u8 a1_0, .int .i64 a1_1, .string a1_2] 25 (0, 0))) := ⟨h1_⟩
      have n2_ : Aside0 (w26.heap[gb434]? = some (.cells #[.int .u8 0, .int .i64 0, .string (⟨#[]⟩ : ByteArray)] 25 (0, 0))) := ⟨h2_⟩
      have n3_ : Aside0 (w26.heap[gb449]? = some (.cells #[.bool false, .int .u64 0, .int .u64 0, .int .u64 0, .int .u64 0, .int .u64 0] 56 (0, 0))) := ⟨h3_⟩
      have n4_ : Aside0 (w.heap.size ≤ gb449) := ⟨h4_⟩
      have n5_ : Aside0 (w.heap.size ≤ gb449) := ⟨h5_⟩
      have n6_ : Aside0 (gb432 ≠ gb449) := ⟨h6_⟩
      have n7_ : Aside0 (gb449 ≠ gb432) := ⟨h7_⟩
      have n8_ : Aside0 (gb433 ≠ gb449) := ⟨h8_⟩
      have n9_ : Aside0 (gb449 ≠ gb433) := ⟨h9_⟩
      have n10_ : Aside0 (gb434 ≠ gb449) := ⟨h10_⟩
      have n11_ : Aside0 (gb449 ≠ gb434) := ⟨h11_⟩
      have n12_ : Aside0 (Below w.heap.size w w26) := ⟨h12_⟩
      clear BK432
      clear BK433
      clear BK434
      clear HB
      clear h0_ h1_ h2_ h3_ h4_ h5_ h6_ h7_ h8_ h9_ h10_ h11_ h12_
      have BK432 := n0_
      have BK433 := n1_
      have BK434 := n2_
      have BK449 := n3_
      have GW449 := n4_
      have GE449 := n5_
      have NB432_449 := n6_
      have NB449_432 := n7_
      have NB433_449 := n8_
      have NB449_433 := n9_
      have NB434_449 := n10_
      have NB449_434 := n11_
      have HB := n12_
      clear n0_ n1_ n2_ n3_ n4_ n5_ n6_ n7_ n8_ n9_ n10_ n11_ n12_
      have hHeld : w26.cell? ⟨gb432, 0, none⟩ = some (.int .u8 a0_0) ∧ w26.cell? ⟨gb432, 1, none⟩ = some (.int .i64 a0_1) ∧ w26.cell? ⟨gb432, 2, none⟩ = some (.string a0_2) ∧ w26.cell? ⟨gb433, 0, none⟩ = some (.int .u8 a1_0) ∧ w26.cell? ⟨gb433, 1, none⟩ = some (.int .i64 a1_1) ∧ w26.cell? ⟨gb433, 2, none⟩ = some (.string a1_2) := hS_
      refine norm_ (a' := ?_) ?_ ?_
      rotate_left
      ·simp only [putAll, Act.put, List.setIfInBounds_toArray, List.set_cons_zero, List.set_cons_succ]
       rfl
      refine one_ (i := 7) (N := some 9) #[true, true, true, true, true, true, true, true, false, false, false] rfl rfl (one_of HT_.out (by kernel_rfl)) (by decide) (fun K hK => ?_)
      refine box_step ?hg (N := 9) ?hd (cs := #[.bool false, .int .u64 0, .int .u64 0, .int .u64 0, .int .u64 0, .int .u64 0]) (t := 56) ?hr ?_; (case hd => rfl); (case hg => rfl); (case hr => first | (go_simp; done) | (go_simp; rfl))
      intro gb450 hg w27 hbox hb
      have n0_ := Aside0.mk (blk_below (bk BK432.out) hb)
      have n1_ := Aside0.mk (blk_below (bk BK433.out) hb)
      have n2_ := Aside0.mk (blk_below (bk BK434.out) hb)
      have n3_ := Aside0.mk (blk_below (bk BK449.out) hb)
      have n4_ := Aside0.mk (below_step (by repeat (first | (with_reducible first | exact HB.out | apply below_alloc | apply pw_below_drewN | apply below_drew1 | refine below_set ?_ (Aside0.out (by assumption))) | exact HB.out)) hb)
      have n5_ := Aside0.mk (hbox)
      have n6_ := Aside0.mk ((by rw [hg]; exact (below_size (by repeat (first | (with_reducible first | exact HB.out | apply below_alloc | apply pw_below_drewN | apply below_drew1 | refine below_set ?_ (Aside0.out (by assumption))) | exact HB.out))) : w.heap.size ≤ gb450))
      have n7_ := Aside0.mk ((by rw [hg]; exact (below_size (by repeat (first | (with_reducible first | exact HB.out | apply below_alloc | apply pw_below_drewN | apply below_drew1 | refine below_set ?_ (Aside0.out (by assumption))) | exact HB.out))) : w.heap.size ≤ gb450))
      have n8_ := Aside0.mk ((by rw [hg]; exact Nat.ne_of_lt (blk_lt (g := gb432) (o := .cells #[.int .u8 a0_0, .int .i64 a0_1, .string a0_2] 25 (0, 0)) (bk BK432.out)) : gb432 ≠ gb450))
      have n9_ := Aside0.mk ((by rw [hg]; exact Nat.ne_of_gt (blk_lt (g := gb432) (o := .cells #[.int .u8 a0_0, .int .i64 a0_1, .string a0_2] 25 (0, 0)) (bk BK432.out)) : gb450 ≠ gb432))
      have n10_ := Aside0.mk ((by rw [hg]; exact Nat.ne_of_lt (blk_lt (g := gb433) (o := .cells #[.int .u8 a1_0, .int .i64 a1_1, .string a1_2] 25 (0, 0)) (bk BK433.out)) : gb433 ≠ gb450))
      have n11_ := Aside0.mk ((by rw [hg]; exact Nat.ne_of_gt (blk_lt (g := gb433) (o := .cells #[.int .u8 a1_0, .int .i64 a1_1, .string a1_2] 25 (0, 0)) (bk BK433.out)) : gb450 ≠ gb433))
      have n12_ := Aside0.mk ((by rw [hg]; exact Nat.ne_of_lt (blk_lt (g := gb434) (o := .cells #[.int .u8 0, .int .i64 0, .string (⟨#[]⟩ : ByteArray)] 25 (0, 0)) (bk BK434.out)) : gb434 ≠ gb450))
      have n13_ := Aside0.mk ((by rw [hg]; exact Nat.ne_of_gt (blk_lt (g := gb434) (o := .cells #[.int .u8 0, .int .i64 0, .string (⟨#[]⟩ : ByteArray)] 25 (0, 0)) (bk BK434.out)) : gb450 ≠ gb434))
      have n14_ := Aside0.mk ((by rw [hg]; exact Nat.ne_of_lt (blk_lt (g := gb449) (o := .cells #[.bool false, .int .u64 0, .int .u64 0, .int .u64 0, .int .u64 0, .int .u64 0] 56 (0, 0)) (bk BK449.out)) : gb449 ≠ gb450))
      have n15_ := Aside0.mk ((by rw [hg]; exact Nat.ne_of_gt (blk_lt (g := gb449) (o := .cells #[.bool false, .int .u64 0, .int .u64 0, .int .u64 0, .int .u64 0, .int .u64 0] 56 (0, 0)) (bk BK449.out)) : gb450 ≠ gb449))
      clear BK432
      clear BK433
      clear BK434
      clear BK449
      clear HB
      have BK432 := n0_
      have BK433 := n1_
      have BK434 := n2_
      have BK449 := n3_
      have HB := n4_
      have BK450 := n5_
      have GW450 := n6_
      have GE450 := n7_
      have NB432_450 := n8_
      have NB450_432 := n9_
      have NB433_450 := n10_
      have NB450_433 := n11_
      have NB434_450 := n12_
      have NB450_434 := n13_
      have NB449_450 := n14_
      have NB450_449 := n15_
      clear n0_ n1_ n2_ n3_ n4_ n5_ n6_ n7_ n8_ n9_ n10_ n11_ n12_ n13_ n14_ n15_
      clear hb hbox hg
      refine hK.out _ _ ⟨(blk_cell BK432.out 0).trans rfl, (blk_cell BK432.out 1).trans rfl, (blk_cell BK432.out 2).trans rfl, (blk_cell BK433.out 0).trans rfl, (blk_cell BK433.out 1).trans rfl, (blk_cell BK433.out 2).trans rfl⟩ (fun hHeld => ?_)
      clear hK K
      refine norm_ (a' := ?_) ?_ ?_
      rotate_left
      ·show Act.put _ (some 9) _ = _
       simp only [Act.put, List.setIfInBounds_toArray, List.set_cons_zero, List.set_cons_succ, i64_w, i32_w]
       rfl
      exact norm_ (by first | (simp only [putAll, Act.put, List.setIfInBounds_toArray, List.set_cons_zero, List.set_cons_succ]; done) | (simp only [putAll, Act.put, List.setIfInBounds_toArray, List.set_cons_zero, List.set_cons_succ]; rfl)) (hJ2_5_6_7 (gb449, gb450) _ ⟨hHeld, (bk BK432.out), (bk BK433.out), (bk BK434.out), (bk BK449.out), (bk BK450.out), GW449.out, GE449.out, NB432_449.out, NB449_432.out, NB433_449.out, NB449_433.out, NB434_449.out, NB449_434.out, NB450_449.out, NB449_450.out, GW450.out, GE450.out, NB432_450.out, NB450_432.out, NB433_450.out, NB450_433.out, NB434_450.out, NB450_434.out, (by repeat (first | (with_reducible first | exact HB.out | apply below_alloc | apply pw_below_drewN | apply below_drew1 | refine below_set ?_ (Aside0.out (by assumption))) | exact HB.out))⟩)
    rintro ⟨gb449, gb450⟩ w27 ⟨hS_, h0_, h1_, h2_, h3_, h4_, h5_, h6_, h7_, h8_, h9_, h10_, h11_, h12_, h13_, h14_, h15_, h16_, h17_, h18_, h19_, h20_, h21_, h22_, h23_⟩
    have n0_ : Aside0 (w27.heap[gb432]? = some (.cells #[.int .u8 a0_0, .int .i64 a0_1, .string a0_2] 25 (0, 0))) := ⟨h0_⟩
    have n1_ : Aside0 (w27.heap[gb433]? = some (.cells #[.int .u8 a1_0, .int .i64 a1_1, .string a1_2] 25 (0, 0))) := ⟨h1_⟩
    have n2_ : Aside0 (w27.heap[gb434]? = some (.cells #[.int .u8 0, .int .i64 0, .string (⟨#[]⟩ : ByteArray)] 25 (0, 0))) := ⟨h2_⟩
    have n3_ : Aside0 (w27.heap[gb449]? = some (.cells #[.bool false, .int .u64 0, .int .u64 0, .int .u64 0, .int .u64 0, .int .u64 0] 56 (0, 0))) := ⟨h3_⟩
    have n4_ : Aside0 (w27.heap[gb450]? = some (.cells #[.bool false, .int .u64 0, .int .u64 0, .int .u64 0, .int .u64 0, .int .u64 0] 56 (0, 0))) := ⟨h4_⟩
    have n5_ : Aside0 (w.heap.size ≤ gb449) := ⟨h5_⟩
    have n6_ : Aside0 (w.heap.size ≤ gb449) := ⟨h6_⟩
    have n7_ : Aside0 (gb432 ≠ gb449) := ⟨h7_⟩
    have n8_ : Aside0 (gb449 ≠ gb432) := ⟨h8_⟩
    have n9_ : Aside0 (gb433 ≠ gb449) := ⟨h9_⟩
    have n10_ : Aside0 (gb449 ≠ gb433) := ⟨h10_⟩
    have n11_ : Aside0 (gb434 ≠ gb449) := ⟨h11_⟩
    have n12_ : Aside0 (gb449 ≠ gb434) := ⟨h12_⟩
    have n13_ : Aside0 (gb450 ≠ gb449) := ⟨h13_⟩
    have n14_ : Aside0 (gb449 ≠ gb450) := ⟨h14_⟩
    have n15_ : Aside0 (w.heap.size ≤ gb450) := ⟨h15_⟩
    have n16_ : Aside0 (w.heap.size ≤ gb450) := ⟨h16_⟩
    have n17_ : Aside0 (gb432 ≠ gb450) := ⟨h17_⟩
    have n18_ : Aside0 (gb450 ≠ gb432) := ⟨h18_⟩
    have n19_ : Aside0 (gb433 ≠ gb450) := ⟨h19_⟩
    have n20_ : Aside0 (gb450 ≠ gb433) := ⟨h20_⟩
    have n21_ : Aside0 (gb434 ≠ gb450) := ⟨h21_⟩
    have n22_ : Aside0 (gb450 ≠ gb434) := ⟨h22_⟩
    have n23_ : Aside0 (Below w.heap.size w w27) := ⟨h23_⟩
    clear BK432
    clear BK433
    clear BK434
    clear HB
    clear h0_ h1_ h2_ h3_ h4_ h5_ h6_ h7_ h8_ h9_ h10_ h11_ h12_ h13_ h14_ h15_ h16_ h17_ h18_ h19_ h20_ h21_ h22_ h23_
    have BK432 := n0_
    have BK433 := n1_
    have BK434 := n2_
    have BK449 := n3_
    have BK450 := n4_
    have GW449 := n5_
    have GE449 := n6_
    have NB432_449 := n7_
    have NB449_432 := n8_
    have NB433_449 := n9_
    have NB449_433 := n10_
    have NB434_449 := n11_
    have NB449_434 := n12_
    have NB450_449 := n13_
    have NB449_450 := n14_
    have GW450 := n15_
    have GE450 := n16_
    have NB432_450 := n17_
    have NB450_432 := n18_
    have NB433_450 := n19_
    have NB450_433 := n20_
    have NB434_450 := n21_
    have NB450_434 := n22_
    have HB := n23_
    clear n0_ n1_ n2_ n3_ n4_ n5_ n6_ n7_ n8_ n9_ n10_ n11_ n12_ n13_ n14_ n15_ n16_ n17_ n18_ n19_ n20_ n21_ n22_ n23_
    have hHeld : w27.cell? ⟨gb432, 0, none⟩ = some (.int .u8 a0_0) ∧ w27.cell? ⟨gb432, 1, none⟩ = some (.int .i64 a0_1) ∧ w27.cell? ⟨gb432, 2, none⟩ = some (.string a0_2) ∧ w27.cell? ⟨gb433, 0, none⟩ = some (.int .u8 a1_0) ∧ w27.cell? ⟨gb433, 1, none⟩ = some (.int .i64 a1_1) ∧ w27.cell? ⟨gb433, 2, none⟩ = some (.string a1_2) := hS_
    refine norm_ (a' := ?_) ?_ ?_
    rotate_left
    ·simp only [putAll, Act.put, List.setIfInBounds_toArray, List.set_cons_zero, List.set_cons_succ]
     rfl
    refine one_ (i := 8) (N := none) #[true, true, true, true, true, true, true, true, true, false, false] rfl rfl (one_of HT_.out (by kernel_rfl)) (by decide) (fun K hK => ?_)
    have hs28 : w27.cell? ⟨gb449, 0, none⟩ = some (.bool false) := (blk_cell BK449.out 0).trans rfl
    have hfs28 := blk_frozen BK449.out 0
    have hns28_0 := NB432_449.out
    have hns28_1 := NB433_449.out
    have hns28_2 := NB434_449.out
    have hns28_4 := NB450_449.out
    have hms28_0 := NB449_432.out
    have hms28_1 := NB449_433.out
    have hms28_2 := NB449_434.out
    have hms28_4 := NB449_450.out
    have hs29 : w27.cell? ⟨gb449, 1, none⟩ = some (.int .u64 0) := (blk_cell BK449.out 1).trans rfl
    have hfs29 := blk_frozen BK449.out 1
    have hns29_0 := NB432_449.out
    have hns29_1 := NB433_449.out
    have hns29_2 := NB434_449.out
    have hns29_4 := NB450_449.out
    have hms29_0 := NB449_432.out
    have hms29_1 := NB449_433.out
    have hms29_2 := NB449_434.out
    have hms29_4 := NB449_450.out
    have hs30 : w27.cell? ⟨gb449, 2, none⟩ = some (.int .u64 0) := (blk_cell BK449.out 2).trans rfl
    have hfs30 := blk_frozen BK449.out 2
    have hns30_0 := NB432_449.out
    have hns30_1 := NB433_449.out
    have hns30_2 := NB434_449.out
    have hns30_4 := NB450_449.out
    have hms30_0 := NB449_432.out
    have hms30_1 := NB449_433.out
    have hms30_2 := NB449_434.out
    have hms30_4 := NB449_450.out
    have hs31 : w27.cell? ⟨gb449, 3, none⟩ = some (.int .u64 0) := (blk_cell BK449.out 3).trans rfl
    have hfs31 := blk_frozen BK449.out 3
    have hns31_0 := NB432_449.out
    have hns31_1 := NB433_449.out
    have hns31_2 := NB434_449.out
    have hns31_4 := NB450_449.out
    have hms31_0 := NB449_432.out
    have hms31_1 := NB449_433.out
    have hms31_2 := NB449_434.out
    have hms31_4 := NB449_450.out
    have hs32 : w27.cell? ⟨gb449, 4, none⟩ = some (.int .u64 0) := (blk_cell BK449.out 4).trans rfl
    have hfs32 := blk_frozen BK449.out 4
    have hns32_0 := NB432_449.out
    have hns32_1 := NB433_449.out
    have hns32_2 := NB434_449.out
    have hns32_4 := NB450_449.out
    have hms32_0 := NB449_432.out
    have hms32_1 := NB449_433.out
    have hms32_2 := NB449_434.out
    have hms32_4 := NB449_450.out
    have hs33 : w27.cell? ⟨gb449, 5, none⟩ = some (.int .u64 0) := (blk_cell BK449.out 5).trans rfl
    have hfs33 := blk_frozen BK449.out 5
    have hns33_0 := NB432_449.out
    have hns33_1 := NB433_449.out
    have hns33_2 := NB434_449.out
    have hns33_4 := NB450_449.out
    have hms33_0 := NB449_432.out
    have hms33_1 := NB449_433.out
    have hms33_2 := NB449_434.out
    have hms33_4 := NB449_450.out
    refine skip_ (w1 := ?_) (by rfl) rfl ?_ ?_
    rotate_left
    ·go_simp
     rfl
    refine hK.out _ _ ⟨((cell_far (p := ⟨gb449, _, none⟩) NB432_449.out _).trans (((cell_far (p := ⟨gb449, _, none⟩) NB432_449.out _).trans (((cell_far (p := ⟨gb449, _, none⟩) NB432_449.out _).trans (((cell_far (p := ⟨gb449, _, none⟩) NB432_449.out _).trans (((cell_far (p := ⟨gb449, _, none⟩) NB432_449.out _).trans (((cell_far (p := ⟨gb449, _, none⟩) NB432_449.out _).trans (hHeld.1)))))))))))), ((cell_far (p := ⟨gb449, _, none⟩) NB432_449.out _).trans (((cell_far (p := ⟨gb449, _, none⟩) NB432_449.out _).trans (((cell_far (p := ⟨gb449, _, none⟩) NB432_449.out _).trans (((cell_far (p := ⟨gb449, _, none⟩) NB432_449.out _).trans (((cell_far (p := ⟨gb449, _, none⟩) NB432_449.out _).trans (((cell_far (p := ⟨gb449, _, none⟩) NB432_449.out _).trans (hHeld.2.1)))))))))))), ((cell_far (p := ⟨gb449, _, none⟩) NB432_449.out _).trans (((cell_far (p := ⟨gb449, _, none⟩) NB432_449.out _).trans (((cell_far (p := ⟨gb449, _, none⟩) NB432_449.out _).trans (((cell_far (p := ⟨gb449, _, none⟩) NB432_449.out _).trans (((cell_far (p := ⟨gb449, _, none⟩) NB432_449.out _).trans (((cell_far (p := ⟨gb449, _, none⟩) NB432_449.out _).trans (hHeld.2.2.1)))))))))))), ((cell_far (p := ⟨gb449, _, none⟩) NB433_449.out _).trans (((cell_far (p := ⟨gb449, _, none⟩) NB433_449.out _).trans (((cell_far (p := ⟨gb449, _, none⟩) NB433_449.out _).trans (((cell_far (p := ⟨gb449, _, none⟩) NB433_449.out _).trans (((cell_far (p := ⟨gb449, _, none⟩) NB433_449.out _).trans (((cell_far (p := ⟨gb449, _, none⟩) NB433_449.out _).trans (hHeld.2.2.2.1)))))))))))), ((cell_far (p := ⟨gb449, _, none⟩) NB433_449.out _).trans (((cell_far (p := ⟨gb449, _, none⟩) NB433_449.out _).trans (((cell_far (p := ⟨gb449, _, none⟩) NB433_449.out _).trans (((cell_far (p := ⟨gb449, _, none⟩) NB433_449.out _).trans (((cell_far (p := ⟨gb449, _, none⟩) NB433_449.out _).trans (((cell_far (p := ⟨gb449, _, none⟩) NB433_449.out _).trans (hHeld.2.2.2.2.1)))))))))))), ((cell_far (p := ⟨gb449, _, none⟩) NB433_449.out _).trans (((cell_far (p := ⟨gb449, _, none⟩) NB433_449.out _).trans (((cell_far (p := ⟨gb449, _, none⟩) NB433_449.out _).trans (((cell_far (p := ⟨gb449, _, none⟩) NB433_449.out _).trans (((cell_far (p := ⟨gb449, _, none⟩) NB433_449.out _).trans (((cell_far (p := ⟨gb449, _, none⟩) NB433_449.out _).trans (hHeld.2.2.2.2.2))))))))))))⟩ (fun hHeld => ?_)
    clear hK K
    refine one_ (i := 9) (N := none) #[true, true, true, true, true, true, true, true, true, true, false] rfl rfl (one_of HT_.out (by kernel_rfl)) (by decide) (fun K hK => ?_)
    have hs34 : w27.cell? ⟨gb450, 0, none⟩ = some (.bool false) := (blk_cell BK450.out 0).trans rfl
    have hfs34 := blk_frozen BK450.out 0
    have hns34_0 := NB432_450.out
    have hns34_1 := NB433_450.out
    have hns34_2 := NB434_450.out
    have hns34_3 := NB449_450.out
    have hms34_0 := NB450_432.out
    have hms34_1 := NB450_433.out
    have hms34_2 := NB450_434.out
    have hms34_3 := NB450_449.out
    have hs35 : w27.cell? ⟨gb450, 1, none⟩ = some (.int .u64 0) := (blk_cell BK450.out 1).trans rfl
    have hfs35 := blk_frozen BK450.out 1
    have hns35_0 := NB432_450.out
    have hns35_1 := NB433_450.out
    have hns35_2 := NB434_450.out
    have hns35_3 := NB449_450.out
    have hms35_0 := NB450_432.out
    have hms35_1 := NB450_433.out
    have hms35_2 := NB450_434.out
    have hms35_3 := NB450_449.out
    have hs36 : w27.cell? ⟨gb450, 2, none⟩ = some (.int .u64 0) := (blk_cell BK450.out 2).trans rfl
    have hfs36 := blk_frozen BK450.out 2
    have hns36_0 := NB432_450.out
    have hns36_1 := NB433_450.out
    have hns36_2 := NB434_450.out
    have hns36_3 := NB449_450.out
    have hms36_0 := NB450_432.out
    have hms36_1 := NB450_433.out
    have hms36_2 := NB450_434.out
    have hms36_3 := NB450_449.out
    have hs37 : w27.cell? ⟨gb450, 3, none⟩ = some (.int .u64 0) := (blk_cell BK450.out 3).trans rfl
    have hfs37 := blk_frozen BK450.out 3
    have hns37_0 := NB432_450.out
    have hns37_1 := NB433_450.out
    have hns37_2 := NB434_450.out
    have hns37_3 := NB449_450.out
    have hms37_0 := NB450_432.out
    have hms37_1 := NB450_433.out
    have hms37_2 := NB450_434.out
    have hms37_3 := NB450_449.out
    have hs38 : w27.cell? ⟨gb450, 4, none⟩ = some (.int .u64 0) := (blk_cell BK450.out 4).trans rfl
    have hfs38 := blk_frozen BK450.out 4
    have hns38_0 := NB432_450.out
    have hns38_1 := NB433_450.out
    have hns38_2 := NB434_450.out
    have hns38_3 := NB449_450.out
    have hms38_0 := NB450_432.out
    have hms38_1 := NB450_433.out
    have hms38_2 := NB450_434.out
    have hms38_3 := NB450_449.out
    have hs39 : w27.cell? ⟨gb450, 5, none⟩ = some (.int .u64 0) := (blk_cell BK450.out 5).trans rfl
    have hfs39 := blk_frozen BK450.out 5
    have hns39_0 := NB432_450.out
    have hns39_1 := NB433_450.out
    have hns39_2 := NB434_450.out
    have hns39_3 := NB449_450.out
    have hms39_0 := NB450_432.out
    have hms39_1 := NB450_433.out
    have hms39_2 := NB450_434.out
    have hms39_3 := NB450_449.out
    refine skip_ (w1 := ?_) (by rfl) rfl ?_ ?_
    rotate_left
    ·go_simp
     rfl
    refine hK.out _ _ ⟨((cell_far (p := ⟨gb450, _, none⟩) NB432_450.out _).trans (((cell_far (p := ⟨gb450, _, none⟩) NB432_450.out _).trans (((cell_far (p := ⟨gb450, _, none⟩) NB432_450.out _).trans (((cell_far (p := ⟨gb450, _, none⟩) NB432_450.out _).trans (((cell_far (p := ⟨gb450, _, none⟩) NB432_450.out _).trans (((cell_far (p := ⟨gb450, _, none⟩) NB432_450.out _).trans (hHeld.1)))))))))))), ((cell_far (p := ⟨gb450, _, none⟩) NB432_450.out _).trans (((cell_far (p := ⟨gb450, _, none⟩) NB432_450.out _).trans (((cell_far (p := ⟨gb450, _, none⟩) NB432_450.out _).trans (((cell_far (p := ⟨gb450, _, none⟩) NB432_450.out _).trans (((cell_far (p := ⟨gb450, _, none⟩) NB432_450.out _).trans (((cell_far (p := ⟨gb450, _, none⟩) NB432_450.out _).trans (hHeld.2.1)))))))))))), ((cell_far (p := ⟨gb450, _, none⟩) NB432_450.out _).trans (((cell_far (p := ⟨gb450, _, none⟩) NB432_450.out _).trans (((cell_far (p := ⟨gb450, _, none⟩) NB432_450.out _).trans (((cell_far (p := ⟨gb450, _, none⟩) NB432_450.out _).trans (((cell_far (p := ⟨gb450, _, none⟩) NB432_450.out _).trans (((cell_far (p := ⟨gb450, _, none⟩) NB432_450.out _).trans (hHeld.2.2.1)))))))))))), ((cell_far (p := ⟨gb450, _, none⟩) NB433_450.out _).trans (((cell_far (p := ⟨gb450, _, none⟩) NB433_450.out _).trans (((cell_far (p := ⟨gb450, _, none⟩) NB433_450.out _).trans (((cell_far (p := ⟨gb450, _, none⟩) NB433_450.out _).trans (((cell_far (p := ⟨gb450, _, none⟩) NB433_450.out _).trans (((cell_far (p := ⟨gb450, _, none⟩) NB433_450.out _).trans (hHeld.2.2.2.1)))))))))))), ((cell_far (p := ⟨gb450, _, none⟩) NB433_450.out _).trans (((cell_far (p := ⟨gb450, _, none⟩) NB433_450.out _).trans (((cell_far (p := ⟨gb450, _, none⟩) NB433_450.out _).trans (((cell_far (p := ⟨gb450, _, none⟩) NB433_450.out _).trans (((cell_far (p := ⟨gb450, _, none⟩) NB433_450.out _).trans (((cell_far (p := ⟨gb450, _, none⟩) NB433_450.out _).trans (hHeld.2.2.2.2.1)))))))))))), ((cell_far (p := ⟨gb450, _, none⟩) NB433_450.out _).trans (((cell_far (p := ⟨gb450, _, none⟩) NB433_450.out _).trans (((cell_far (p := ⟨gb450, _, none⟩) NB433_450.out _).trans (((cell_far (p := ⟨gb450, _, none⟩) NB433_450.out _).trans (((cell_far (p := ⟨gb450, _, none⟩) NB433_450.out _).trans (((cell_far (p := ⟨gb450, _, none⟩) NB433_450.out _).trans (hHeld.2.2.2.2.2))))))))))))⟩ (fun hHeld => ?_)
    clear hK K
    refine pure_ (i := 10) (N := some 10) (v := ?_) (a' := ?_) #[true, true, true, true, true, true, true, true, true, true, true] rfl rfl (any_of HT_.out (by kernel_rfl)) (fun _ _ _ h => h) (Or.inl ⟨by rfl, ?_⟩) ?_ ?_
    rotate_left
    ·intro w'
     go_simp
     with_reducible rfl
    rotate_left
    ·simp only [Act.put, List.setIfInBounds_toArray, List.set_cons_zero, List.set_cons_succ, i64_w, i32_w]
     rfl
    refine done_ (done_of HT_.out (by kernel_rfl)) ?_
    go_upto_region 5 with (fail)
    go_cut [37] (fun v37 wc => ∃ (kq : Nat) (x37_20 : Bool), v37 = .bool x37_20 ∧ Aside0 (rf17_Sub.j1 kq 2 x37_20 a0_0 a0_1 a0_2 a1_0 a1_1 a1_2 t437 t438 t439 t440 t441 t442 t443 t444 t445 t446 t447 t448 = some (r1, r2, r3, r4)) ∧ Aside0 (kq ≤ kj3) ∧ Aside0 (wc.heap[gb432]? = some (.cells #[.int .u8 a0_0, .int .i64 a0_1, .string a0_2] 25 (0, 0))) ∧ Aside0 (wc.heap[gb433]? = some (.cells #[.int .u8 a1_0, .int .i64 a1_1, .string a1_2] 25 (0, 0))) ∧ Aside0 (wc.heap[gb434]? = some (.cells #[.int .u8 0, .int .i64 0, .string (⟨#[]⟩ : ByteArray)] 25 (0, 0))) ∧ Aside0 (wc.heap[gb449]? = some (.cells #[.bool t437, .int .u64 t438, .int .u64 t439, .int .u64 t440, .int .u64 t441, .int .u64 t442] 56 (0, 0))) ∧ Aside0 (wc.heap[gb450]? = some (.cells #[.bool t443, .int .u64 t444, .int .u64 t445, .int .u64 t446, .int .u64 t447, .int .u64 t448] 56 (0, 0))) ∧ Aside0 (Below w.heap.size w wc))
    case first =>
     have H := HC21.out
     clear HC21
     by_cases c40 : a0_0 = 2
     ·rw [if_pos c40] at H
      have c40b0 : (a0_0 == 2) = true := beq_iff_eq.mpr c40
      have c40b1 : (a0_0 != 2) = false := bne_eq_false_iff_eq.mpr c40
      clear c40
      (first | rw [c40b0] | (simp only [i64_w, i32_w]; rw [c40b0]) | skip)
      have H' := Aside0.mk H
      clear H
      have hnb41 := NB432_433.out
      have hnc41 := NB433_432.out
      have hnb42 := NB432_434.out
      have hnc42 := NB434_432.out
      have hnb43 := NB432_449.out
      have hnc43 := NB449_432.out
      have hnb44 := NB432_450.out
      have hnc44 := NB450_432.out
      have hcz45_0 : w27.cell? ⟨gb432, 0, none⟩ = some (.int .u8 a0_0) := (blk_cell BK432.out 0).trans rfl
      have hcz45_1 : w27.cell? ⟨gb432, 1, none⟩ = some (.int .i64 a0_1) := (blk_cell BK432.out 1).trans rfl
      have hcz45_2 : w27.cell? ⟨gb432, 2, none⟩ = some (.string a0_2) := (blk_cell BK432.out 2).trans rfl
      have hfz45_0 := blk_frozen BK432.out 0
      have hfz45_1 := blk_frozen BK432.out 1
      have hfz45_2 := blk_frozen BK432.out 2
      have hnb46 := NB433_434.out
      have hnc46 := NB434_433.out
      have hnb47 := NB433_449.out
      have hnc47 := NB449_433.out
      have hnb48 := NB433_450.out
      have hnc48 := NB450_433.out
      have hcz49_0 : w27.cell? ⟨gb433, 0, none⟩ = some (.int .u8 a1_0) := (blk_cell BK433.out 0).trans rfl
      have hcz49_1 : w27.cell? ⟨gb433, 1, none⟩ = some (.int .i64 a1_1) := (blk_cell BK433.out 1).trans rfl
      have hcz49_2 : w27.cell? ⟨gb433, 2, none⟩ = some (.string a1_2) := (blk_cell BK433.out 2).trans rfl
      have hfz49_0 := blk_frozen BK433.out 0
      have hfz49_1 := blk_frozen BK433.out 1
      have hfz49_2 := blk_frozen BK433.out 2
      go_wp2
      go_meet
      case rel => exact ⟨_, ((a1_0 != 2)), (by first | rfl | (simp; done) | (simp [*]; done)), H', ⟨by have := HJ3.out; first | omega | exact Nat.le_refl _⟩, ⟨by (with_reducible repeat first | apply blk_drewN | apply blk_drew | apply blk_alloc); refine blk_far ?_ NB432_450.out _; (with_reducible repeat first | apply blk_drewN | apply blk_drew | apply blk_alloc); refine blk_far ?_ NB432_450.out _; (with_reducible repeat first | apply blk_drewN | apply blk_drew | apply blk_alloc); refine blk_far ?_ NB432_450.out _; (with_reducible repeat first | apply blk_drewN | apply blk_drew | apply blk_alloc); refine blk_far ?_ NB432_450.out _; (with_reducible repeat first | apply blk_drewN | apply blk_drew | apply blk_alloc); refine blk_far ?_ NB432_450.out _; (with_reducible repeat first | apply blk_drewN | apply blk_drew | apply blk_alloc); refine blk_far ?_ NB432_450.out _; (with_reducible repeat first | apply blk_drewN | apply blk_drew | apply blk_alloc); refine blk_far ?_ NB432_449.out _; (with_reducible repeat first | apply blk_drewN | apply blk_drew | apply blk_alloc); refine blk_far ?_ NB432_449.out _; (with_reducible repeat first | apply blk_drewN | apply blk_drew | apply blk_alloc); refine blk_far ?_ NB432_449.out _; (with_reducible repeat first | apply blk_drewN | apply blk_drew | apply blk_alloc); refine blk_far ?_ NB432_449.out _; (with_reducible repeat first | apply blk_drewN | apply blk_drew | apply blk_alloc); refine blk_far ?_ NB432_449.out _; (with_reducible repeat first | apply blk_drewN | apply blk_drew | apply blk_alloc); refine blk_far ?_ NB432_449.out _; (with_reducible repeat first | apply blk_drewN | apply blk_drew | apply blk_alloc); exact BK432.out⟩, ⟨by (with_reducible repeat first | apply blk_drewN | apply blk_drew | apply blk_alloc); refine blk_far ?_ NB433_450.out _; (with_reducible repeat first | apply blk_drewN | apply blk_drew | apply blk_alloc); refine blk_far ?_ NB433_450.out _; (with_reducible repeat first | apply blk_drewN | apply blk_drew | apply blk_alloc); refine blk_far ?_ NB433_450.out _; (with_reducible repeat first | apply blk_drewN | apply blk_drew | apply blk_alloc); refine blk_far ?_ NB433_450.out _; (with_reducible repeat first | apply blk_drewN | apply blk_drew | apply blk_alloc); refine blk_far ?_ NB433_450.out _; (with_reducible repeat first | apply blk_drewN | apply blk_drew | apply blk_alloc); refine blk_far ?_ NB433_450.out _; (with_reducible repeat first | apply blk_drewN | apply blk_drew | apply blk_alloc); refine blk_far ?_ NB433_449.out _; (with_reducible repeat first | apply blk_drewN | apply blk_drew | apply blk_alloc); refine blk_far ?_ NB433_449.out _; (with_reducible repeat first | apply blk_drewN | apply blk_drew | apply blk_alloc); refine blk_far ?_ NB433_449.out _; (with_reducible repeat first | apply blk_drewN | apply blk_drew | apply blk_alloc); refine blk_far ?_ NB433_449.out _; (with_reducible repeat first | apply blk_drewN | apply blk_drew | apply blk_alloc); refine blk_far ?_ NB433_449.out _; (with_reducible repeat first | apply blk_drewN | apply blk_drew | apply blk_alloc); refine blk_far ?_ NB433_449.out _; (with_reducible repeat first | apply blk_drewN | apply blk_drew | apply blk_alloc); exact BK433.out⟩, ⟨by (with_reducible repeat first | apply blk_drewN | apply blk_drew | apply blk_alloc); refine blk_far ?_ NB434_450.out _; (with_reducible repeat first | apply blk_drewN | apply blk_drew | apply blk_alloc); refine blk_far ?_ NB434_450.out _; (with_reducible repeat first | apply blk_drewN | apply blk_drew | apply blk_alloc); refine blk_far ?_ NB434_450.out _; (with_reducible repeat first | apply blk_drewN | apply blk_drew | apply blk_alloc); refine blk_far ?_ NB434_450.out _; (with_reducible repeat first | apply blk_drewN | apply blk_drew | apply blk_alloc); refine blk_far ?_ NB434_450.out _; (with_reducible repeat first | apply blk_drewN | apply blk_drew | apply blk_alloc); refine blk_far ?_ NB434_450.out _; (with_reducible repeat first | apply blk_drewN | apply blk_drew | apply blk_alloc); refine blk_far ?_ NB434_449.out _; (with_reducible repeat first | apply blk_drewN | apply blk_drew | apply blk_alloc); refine blk_far ?_ NB434_449.out _; (with_reducible repeat first | apply blk_drewN | apply blk_drew | apply blk_alloc); refine blk_far ?_ NB434_449.out _; (with_reducible repeat first | apply blk_drewN | apply blk_drew | apply blk_alloc); refine blk_far ?_ NB434_449.out _; (with_reducible repeat first | apply blk_drewN | apply blk_drew | apply blk_alloc); refine blk_far ?_ NB434_449.out _; (with_reducible repeat first | apply blk_drewN | apply blk_drew | apply blk_alloc); refine blk_far ?_ NB434_449.out _; (with_reducible repeat first | apply blk_drewN | apply blk_drew | apply blk_alloc); exact BK434.out⟩, ⟨by (with_reducible repeat first | apply blk_drewN | apply blk_drew | apply blk_alloc); refine blk_far ?_ NB449_450.out _; (with_reducible repeat first | apply blk_drewN | apply blk_drew | apply blk_alloc); refine blk_far ?_ NB449_450.out _; (with_reducible repeat first | apply blk_drewN | apply blk_drew | apply blk_alloc); refine blk_far ?_ NB449_450.out _; (with_reducible repeat first | apply blk_drewN | apply blk_drew | apply blk_alloc); refine blk_far ?_ NB449_450.out _; (with_reducible repeat first | apply blk_drewN | apply blk_drew | apply blk_alloc); refine blk_far ?_ NB449_450.out _; (with_reducible repeat first | apply blk_drewN | apply blk_drew | apply blk_alloc); refine blk_far ?_ NB449_450.out _; (with_reducible repeat first | apply blk_drewN | apply blk_drew | apply blk_alloc); refine blk_put (cs := #[.bool t437, .int .u64 t438, .int .u64 t439, .int .u64 t440, .int .u64 t441, .int .u64 0]) ?_ 5 _ rfl; refine blk_put (cs := #[.bool t437, .int .u64 t438, .int .u64 t439, .int .u64 t440, .int .u64 0, .int .u64 0]) ?_ 4 _ rfl; refine blk_put (cs := #[.bool t437, .int .u64 t438, .int .u64 t439, .int .u64 0, .int .u64 0, .int .u64 0]) ?_ 3 _ rfl; refine blk_put (cs := #[.bool t437, .int .u64 t438, .int .u64 0, .int .u64 0, .int .u64 0, .int .u64 0]) ?_ 2 _ rfl; refine blk_put (cs := #[.bool t437, .int .u64 0, .int .u64 0, .int .u64 0, .int .u64 0, .int .u64 0]) ?_ 1 _ rfl; refine blk_put (cs := #[.bool false, .int .u64 0, .int .u64 0, .int .u64 0, .int .u64 0, .int .u64 0]) ?_ 0 _ rfl; (with_reducible repeat first | apply blk_drewN | apply blk_drew | apply blk_alloc); exact BK449.out⟩, ⟨by (with_reducible repeat first | apply blk_drewN | apply blk_drew | apply blk_alloc); refine blk_put (cs := #[.bool t443, .int .u64 t444, .int .u64 t445, .int .u64 t446, .int .u64 t447, .int .u64 0]) ?_ 5 _ rfl; refine blk_put (cs := #[.bool t443, .int .u64 t444, .int .u64 t445, .int .u64 t446, .int .u64 0, .int .u64 0]) ?_ 4 _ rfl; refine blk_put (cs := #[.bool t443, .int .u64 t444, .int .u64 t445, .int .u64 0, .int .u64 0, .int .u64 0]) ?_ 3 _ rfl; refine blk_put (cs := #[.bool t443, .int .u64 t444, .int .u64 0, .int .u64 0, .int .u64 0, .int .u64 0]) ?_ 2 _ rfl; refine blk_put (cs := #[.bool t443, .int .u64 0, .int .u64 0, .int .u64 0, .int .u64 0, .int .u64 0]) ?_ 1 _ rfl; refine blk_put (cs := #[.bool false, .int .u64 0, .int .u64 0, .int .u64 0, .int .u64 0, .int .u64 0]) ?_ 0 _ rfl; (with_reducible repeat (first | refine blk_drewN ?_ _ | refine blk_drew ?_ | refine blk_alloc ?_ _ | refine blk_far ?_ NB450_449.out _)); exact BK450.out⟩, ⟨by repeat (first | (with_reducible first | exact HB.out | apply below_alloc | apply pw_below_drewN | apply below_drew1 | refine below_set ?_ (Aside0.out (by assumption))) | exact HB.out)⟩⟩
     ·rw [if_neg c40] at H
      have c40b0 : (a0_0 == 2) = false := beq_eq_false_iff_ne.mpr c40
      have c40b1 : (a0_0 != 2) = true := bne_iff_ne.mpr c40
      (first | rw [c40b0] | (simp only [i64_w, i32_w]; rw [c40b0]) | skip)
      have H' := Aside0.mk H
      clear H
      have hnb50 := NB432_433.out
      have hnc50 := NB433_432.out
      have hnb51 := NB432_434.out
      have hnc51 := NB434_432.out
      have hnb52 := NB432_449.out
      have hnc52 := NB449_432.out
      have hnb53 := NB432_450.out
      have hnc53 := NB450_432.out
      have hcz54_0 : w27.cell? ⟨gb432, 0, none⟩ = some (.int .u8 a0_0) := (blk_cell BK432.out 0).trans rfl
      have hcz54_1 : w27.cell? ⟨gb432, 1, none⟩ = some (.int .i64 a0_1) := (blk_cell BK432.out 1).trans rfl
      have hcz54_2 : w27.cell? ⟨gb432, 2, none⟩ = some (.string a0_2) := (blk_cell BK432.out 2).trans rfl
      have hfz54_0 := blk_frozen BK432.out 0
      have hfz54_1 := blk_frozen BK432.out 1
      have hfz54_2 := blk_frozen BK432.out 2
      go_wp2
      go_meet
      case rel => exact ⟨_, (true), (by first | rfl | (simp; done) | (simp [*]; done)), H', ⟨by have := HJ3.out; first | omega | exact Nat.le_refl _⟩, ⟨by (with_reducible repeat first | apply blk_drewN | apply blk_drew | apply blk_alloc); refine blk_far ?_ NB432_450.out _; (with_reducible repeat first | apply blk_drewN | apply blk_drew | apply blk_alloc); refine blk_far ?_ NB432_450.out _; (with_reducible repeat first | apply blk_drewN | apply blk_drew | apply blk_alloc); refine blk_far ?_ NB432_450.out _; (with_reducible repeat first | apply blk_drewN | apply blk_drew | apply blk_alloc); refine blk_far ?_ NB432_450.out _; (with_reducible repeat first | apply blk_drewN | apply blk_drew | apply blk_alloc); refine blk_far ?_ NB432_450.out _; (with_reducible repeat first | apply blk_drewN | apply blk_drew | apply blk_alloc); refine blk_far ?_ NB432_450.out _; (with_reducible repeat first | apply blk_drewN | apply blk_drew | apply blk_alloc); refine blk_far ?_ NB432_449.out _; (with_reducible repeat first | apply blk_drewN | apply blk_drew | apply blk_alloc); refine blk_far ?_ NB432_449.out _; (with_reducible repeat first | apply blk_drewN | apply blk_drew | apply blk_alloc); refine blk_far ?_ NB432_449.out _; (with_reducible repeat first | apply blk_drewN | apply blk_drew | apply blk_alloc); refine blk_far ?_ NB432_449.out _; (with_reducible repeat first | apply blk_drewN | apply blk_drew | apply blk_alloc); refine blk_far ?_ NB432_449.out _; (with_reducible repeat first | apply blk_drewN | apply blk_drew | apply blk_alloc); refine blk_far ?_ NB432_449.out _; (with_reducible repeat first | apply blk_drewN | apply blk_drew | apply blk_alloc); exact BK432.out⟩, ⟨by (with_reducible repeat first | apply blk_drewN | apply blk_drew | apply blk_alloc); refine blk_far ?_ NB433_450.out _; (with_reducible repeat first | apply blk_drewN | apply blk_drew | apply blk_alloc); refine blk_far ?_ NB433_450.out _; (with_reducible repeat first | apply blk_drewN | apply blk_drew | apply blk_alloc); refine blk_far ?_ NB433_450.out _; (with_reducible repeat first | apply blk_drewN | apply blk_drew | apply blk_alloc); refine blk_far ?_ NB433_450.out _; (with_reducible repeat first | apply blk_drewN | apply blk_drew | apply blk_alloc); refine blk_far ?_ NB433_450.out _; (with_reducible repeat first | apply blk_drewN | apply blk_drew | apply blk_alloc); refine blk_far ?_ NB433_450.out _; (with_reducible repeat first | apply blk_drewN | apply blk_drew | apply blk_alloc); refine blk_far ?_ NB433_449.out _; (with_reducible repeat first | apply blk_drewN | apply blk_drew | apply blk_alloc); refine blk_far ?_ NB433_449.out _; (with_reducible repeat first | apply blk_drewN | apply blk_drew | apply blk_alloc); refine blk_far ?_ NB433_449.out _; (with_reducible repeat first | apply blk_drewN | apply blk_drew | apply blk_alloc); refine blk_far ?_ NB433_449.out _; (with_reducible repeat first | apply blk_drewN | apply blk_drew | apply blk_alloc); refine blk_far ?_ NB433_449.out _; (with_reducible repeat first | apply blk_drewN | apply blk_drew | apply blk_alloc); refine blk_far ?_ NB433_449.out _; (with_reducible repeat first | apply blk_drewN | apply blk_drew | apply blk_alloc); exact BK433.out⟩, ⟨by (with_reducible repeat first | apply blk_drewN | apply blk_drew | apply blk_alloc); refine blk_far ?_ NB434_450.out _; (with_reducible repeat first | apply blk_drewN | apply blk_drew | apply blk_alloc); refine blk_far ?_ NB434_450.out _; (with_reducible repeat first | apply blk_drewN | apply blk_drew | apply blk_alloc); refine blk_far ?_ NB434_450.out _; (with_reducible repeat first | apply blk_drewN | apply blk_drew | apply blk_alloc); refine blk_far ?_ NB434_450.out _; (with_reducible repeat first | apply blk_drewN | apply blk_drew | apply blk_alloc); refine blk_far ?_ NB434_450.out _; (with_reducible repeat first | apply blk_drewN | apply blk_drew | apply blk_alloc); refine blk_far ?_ NB434_450.out _; (with_reducible repeat first | apply blk_drewN | apply blk_drew | apply blk_alloc); refine blk_far ?_ NB434_449.out _; (with_reducible repeat first | apply blk_drewN | apply blk_drew | apply blk_alloc); refine blk_far ?_ NB434_449.out _; (with_reducible repeat first | apply blk_drewN | apply blk_drew | apply blk_alloc); refine blk_far ?_ NB434_449.out _; (with_reducible repeat first | apply blk_drewN | apply blk_drew | apply blk_alloc); refine blk_far ?_ NB434_449.out _; (with_reducible repeat first | apply blk_drewN | apply blk_drew | apply blk_alloc); refine blk_far ?_ NB434_449.out _; (with_reducible repeat first | apply blk_drewN | apply blk_drew | apply blk_alloc); refine blk_far ?_ NB434_449.out _; (with_reducible repeat first | apply blk_drewN | apply blk_drew | apply blk_alloc); exact BK434.out⟩, ⟨by (with_reducible repeat first | apply blk_drewN | apply blk_drew | apply blk_alloc); refine blk_far ?_ NB449_450.out _; (with_reducible repeat first | apply blk_drewN | apply blk_drew | apply blk_alloc); refine blk_far ?_ NB449_450.out _; (with_reducible repeat first | apply blk_drewN | apply blk_drew | apply blk_alloc); refine blk_far ?_ NB449_450.out _; (with_reducible repeat first | apply blk_drewN | apply blk_drew | apply blk_alloc); refine blk_far ?_ NB449_450.out _; (with_reducible repeat first | apply blk_drewN | apply blk_drew | apply blk_alloc); refine blk_far ?_ NB449_450.out _; (with_reducible repeat first | apply blk_drewN | apply blk_drew | apply blk_alloc); refine blk_far ?_ NB449_450.out _; (with_reducible repeat first | apply blk_drewN | apply blk_drew | apply blk_alloc); refine blk_put (cs := #[.bool t437, .int .u64 t438, .int .u64 t439, .int .u64 t440, .int .u64 t441, .int .u64 0]) ?_ 5 _ rfl; refine blk_put (cs := #[.bool t437, .int .u64 t438, .int .u64 t439, .int .u64 t440, .int .u64 0, .int .u64 0]) ?_ 4 _ rfl; refine blk_put (cs := #[.bool t437, .int .u64 t438, .int .u64 t439, .int .u64 0, .int .u64 0, .int .u64 0]) ?_ 3 _ rfl; refine blk_put (cs := #[.bool t437, .int .u64 t438, .int .u64 0, .int .u64 0, .int .u64 0, .int .u64 0]) ?_ 2 _ rfl; refine blk_put (cs := #[.bool t437, .int .u64 0, .int .u64 0, .int .u64 0, .int .u64 0, .int .u64 0]) ?_ 1 _ rfl; refine blk_put (cs := #[.bool false, .int .u64 0, .int .u64 0, .int .u64 0, .int .u64 0, .int .u64 0]) ?_ 0 _ rfl; (with_reducible repeat first | apply blk_drewN | apply blk_drew | apply blk_alloc); exact BK449.out⟩, ⟨by (with_reducible repeat first | apply blk_drewN | apply blk_drew | apply blk_alloc); refine blk_put (cs := #[.bool t443, .int .u64 t444, .int .u64 t445, .int .u64 t446, .int .u64 t447, .int .u64 0]) ?_ 5 _ rfl; refine blk_put (cs := #[.bool t443, .int .u64 t444, .int .u64 t445, .int .u64 t446, .int .u64 0, .int .u64 0]) ?_ 4 _ rfl; refine blk_put (cs := #[.bool t443, .int .u64 t444, .int .u64 t445, .int .u64 0, .int .u64 0, .int .u64 0]) ?_ 3 _ rfl; refine blk_put (cs := #[.bool t443, .int .u64 t444, .int .u64 0, .int .u64 0, .int .u64 0, .int .u64 0]) ?_ 2 _ rfl; refine blk_put (cs := #[.bool t443, .int .u64 0, .int .u64 0, .int .u64 0, .int .u64 0, .int .u64 0]) ?_ 1 _ rfl; refine blk_put (cs := #[.bool false, .int .u64 0, .int .u64 0, .int .u64 0, .int .u64 0, .int .u64 0]) ?_ 0 _ rfl; (with_reducible repeat (first | refine blk_drewN ?_ _ | refine blk_drew ?_ | refine blk_alloc ?_ _ | refine blk_far ?_ NB450_449.out _)); exact BK450.out⟩, ⟨by repeat (first | (with_reducible first | exact HB.out | apply below_alloc | apply pw_below_drewN | apply below_drew1 | refine below_set ?_ (Aside0.out (by assumption))) | exact HB.out)⟩⟩
    case rest =>
     clear HC21
     try clear p2
     try clear c4
     try clear c5
     try clear c6
     try clear c40
     try clear c40b0
     try clear c40b1
     try clear c41
     try clear c42
     try clear c43
     try clear c44
     try clear c46
     try clear c47
     try clear c48
     try clear c50
     try clear c51
     try clear c52
     try clear c53
     try clear hcz45_0
     try clear hcz45_1
     try clear hcz45_2
     try clear hcz49_0
     try clear hcz49_1
     try clear hcz49_2
     try clear hcz54_0
     try clear hcz54_1
     try clear hcz54_2
     try clear hfz45_0
     try clear hfz45_1
     try clear hfz45_2
     try clear hfz49_0
     try clear hfz49_1
     try clear hfz49_2
     try clear hfz54_0
     try clear hfz54_1
     try clear hfz54_2
     obtain ⟨kq, x37_20, rfl, HA, HJ20, BK432, BK433, BK434, BK449, BK450, HB⟩ := hcut
     cases kq with
     | zero => exact absurd HA.out (by simp [rf17_Sub.j1])
     | succ kj20 =>
      have H := HA.out
      clear HA
      simp only [rf17_Sub.j1] at H
      by_cases c55 : x37_20 = true
      ·subst c55
       have H1 : ((rf17_fixed.f a0_0 a0_1 a0_2).bind fun bt451 => ((rf17_fixed.f a1_0 a1_1 a1_2).bind fun bt457 => ((rf17_add.f bt451.1 bt451.2.1 bt451.2.2.1 bt451.2.2.2.1 bt451.2.2.2.2.1 bt451.2.2.2.2.2 (!bt457.1) bt457.2.1 bt457.2.2.1 bt457.2.2.2.1 bt457.2.2.2.2.1 bt457.2.2.2.2.2).bind fun bt463 => ((rf17_answer.f 3 bt463.1 bt463.2.1 bt463.2.2.1 bt463.2.2.2.1 bt463.2.2.2.2.1 bt463.2.2.2.2.2).bind fun bt469 => (some (bt469.1, bt469.2.1, bt469.2.2.1, bt469.2.2.2)))))) = some (r1, r2, r3, r4) := by rw [if_pos rfl] at H; exact H
       clear H
       have H := H1
       clear H1
       replace H := Option.bind_eq_some_iff.mp H
       obtain ⟨⟨t451, t452, t453, t454, t455, t456⟩, A560, H⟩ := H
       replace H : ((rf17_fixed.f a1_0 a1_1 a1_2).bind fun bt457 => ((rf17_add.f t451 t452 t453 t454 t455 t456 (!bt457.1) bt457.2.1 bt457.2.2.1 bt457.2.2.2.1 bt457.2.2.2.2.1 bt457.2.2.2.2.2).bind fun bt463 => ((rf17_answer.f 3 bt463.1 bt463.2.1 bt463.2.2.1 bt463.2.2.2.1 bt463.2.2.2.2.1 bt463.2.2.2.2.2).bind fun bt469 => (some (bt469.1, bt469.2.1, bt469.2.2.1, bt469.2.2.2))))) = some (r1, r2, r3, r4) := H
       have A56 := Aside0.mk A560
       clear A560
       replace H := Option.bind_eq_some_iff.mp H
       obtain ⟨⟨t457, t458, t459, t460, t461, t462⟩, A570, H⟩ := H
       replace H : ((rf17_add.f t451 t452 t453 t454 t455 t456 (!t457) t458 t459 t460 t461 t462).bind fun bt463 => ((rf17_answer.f 3 bt463.1 bt463.2.1 bt463.2.2.1 bt463.2.2.2.1 bt463.2.2.2.2.1 bt463.2.2.2.2.2).bind fun bt469 => (some (bt469.1, bt469.2.1, bt469.2.2.1, bt469.2.2.2)))) = some (r1, r2, r3, r4) := H
       have A57 := Aside0.mk A570
       clear A570
       replace H := Option.bind_eq_some_iff.mp H
       obtain ⟨⟨t463, t464, t465, t466, t467, t468⟩, A580, H⟩ := H
       replace H : ((rf17_answer.f 3 t463 t464 t465 t466 t467 t468).bind fun bt469 => (some (bt469.1, bt469.2.1, bt469.2.2.1, bt469.2.2.2))) = some (r1, r2, r3, r4) := H
       have A58 := Aside0.mk A580
       clear A580
       replace H := Option.bind_eq_some_iff.mp H
       obtain ⟨⟨t469, t470, t471, t472⟩, A590, H⟩ := H
       replace H : (some (t469, t470, t471, t472)) = some (r1, r2, r3, r4) := H
       have A59 := Aside0.mk A590
       clear A590
       simp only [Option.some.injEq, Prod.mk.injEq] at H
       obtain ⟨rfl, rfl, rfl, rfl⟩ := H
       try go_wp2
       have n0_ := Aside0.mk (blk_drew BK432.out)
       have n1_ := Aside0.mk (blk_drew BK433.out)
       have n2_ := Aside0.mk (blk_drew BK434.out)
       have n3_ := Aside0.mk (blk_drew BK449.out)
       have n4_ := Aside0.mk (blk_drew BK450.out)
       have n5_ := Aside0.mk (below_drew1 HB.out)
       clear BK432
       clear BK433
       clear BK434
       clear BK449
       clear BK450
       clear HB
       have BK432 := n0_
       have BK433 := n1_
       have BK434 := n2_
       have BK449 := n3_
       have BK450 := n4_
       have HB := n5_
       clear n0_ n1_ n2_ n3_ n4_ n5_
       refine start_ (n := 7) (S := fun w' => w'.cell? ⟨gb432, 0, none⟩ = some (.int .u8 a0_0) ∧ w'.cell? ⟨gb432, 1, none⟩ = some (.int .i64 a0_1) ∧ w'.cell? ⟨gb432, 2, none⟩ = some (.string a0_2) ∧ w'.cell? ⟨gb433, 0, none⟩ = some (.int .u8 a1_0) ∧ w'.cell? ⟨gb433, 1, none⟩ = some (.int .i64 a1_1) ∧ w'.cell? ⟨gb433, 2, none⟩ = some (.string a1_2)) (ds := []) #[false, false, false, false, false, false, false] (by kernel_rfl) rfl rfl ⟨(blk_cell BK432.out 0).trans rfl, (blk_cell BK432.out 1).trans rfl, (blk_cell BK432.out 2).trans rfl, (blk_cell BK433.out 0).trans rfl, (blk_cell BK433.out 1).trans rfl, (blk_cell BK433.out 2).trans rfl⟩ (fun hHeld => ?_)
       generalize wc.drew = w60 at BK432 BK433 BK434 BK449 BK450 HB hHeld ⊢
       refine take_ (i := 0) (N := some 38) (v := ?_) (a' := ?_) #[true, false, false, false, false, false, false] rfl rfl (by kernel_rfl) (fun _ _ _ h => h) (Or.inl ⟨by rfl, ?_⟩) hHeld ?_ ?_
       rotate_left
       ·rintro w' ⟨s0, s1, s2, s3, s4, s5⟩
        go_simp
        with_reducible rfl
       rotate_left
       ·simp only [Act.put, List.setIfInBounds_toArray, List.set_cons_zero, List.set_cons_succ, i64_w, i32_w]
        rfl
       refine take_ (i := 2) (N := some 40) (v := ?_) (a' := ?_) #[true, false, true, false, false, false, false] rfl rfl (by kernel_rfl) (fun _ _ _ h => h) (Or.inl ⟨by rfl, ?_⟩) hHeld ?_ ?_
       rotate_left
       ·rintro w' ⟨s0, s1, s2, s3, s4, s5⟩
        go_simp
        with_reducible rfl
       rotate_left
       ·simp only [Act.put, List.setIfInBounds_toArray, List.set_cons_zero, List.set_cons_succ, i64_w, i32_w]
        rfl
       refine one_ (i := 1) (N := some 39) #[true, true, true, false, false, false, false] rfl rfl (by kernel_rfl) (by decide) (fun K hK => ?_)
       refine goes_ Tryd.func44 (by kernel_rfl) rfl #[.agg #[.int .u8 a0_0, .int .i64 a0_1, .string a0_2]] (by rfl) rfl rfl (by (try simp only [List.map_toArray, List.map_cons, List.map_nil]); first | done | rfl | (simp only [List.length_drop, List.length_take]; rfl)) ?_
       with_reducible refine (rf17_fixed.calls a0_0 a0_1 a0_2 t451 t452 t453 t454 t455 t456 _ A56.out).mono ?_
       rintro e w61 ⟨rfl, hb⟩
       refine ⟨_, rfl, ?_⟩
       have n0_ := Aside0.mk (blk_below (bk BK432.out) hb)
       have n1_ := Aside0.mk (blk_below (bk BK433.out) hb)
       have n2_ := Aside0.mk (blk_below (bk BK434.out) hb)
       have n3_ := Aside0.mk (blk_below (bk BK449.out) hb)
       have n4_ := Aside0.mk (blk_below (bk BK450.out) hb)
       have n5_ := Aside0.mk (below_step (by repeat (first | (with_reducible first | exact HB.out | apply below_alloc | apply pw_below_drewN | apply below_drew1 | refine below_set ?_ (Aside0.out (by assumption))) | exact HB.out)) hb)
       clear BK432
       clear BK433
       clear BK434
       clear BK449
       clear BK450
       clear HB
       have BK432 := n0_
       have BK433 := n1_
       have BK434 := n2_
       have BK449 := n3_
       have BK450 := n4_
       have HB := n5_
       clear n0_ n1_ n2_ n3_ n4_ n5_
       (try clear hb)
       (try clear hb2)
       (try clear hk)
       (try clear hi)
       refine hK.out _ _ ⟨(blk_cell BK432.out 0).trans rfl, (blk_cell BK432.out 1).trans rfl, (blk_cell BK432.out 2).trans rfl, (blk_cell BK433.out 0).trans rfl, (blk_cell BK433.out 1).trans rfl, (blk_cell BK433.out 2).trans rfl⟩ (fun hHeld => ?_)
       clear hK K
       refine norm_ (a' := ?_) ?_ ?_
       rotate_left
       ·show Act.put _ (some 39) _ = _
        simp only [Act.put, List.setIfInBounds_toArray, List.set_cons_zero, List.set_cons_succ, i64_w, i32_w]
        rfl
       refine one_ (i := 3) (N := some 41) #[true, true, true, true, false, false, false] rfl rfl (by kernel_rfl) (by decide) (fun K hK => ?_)
       refine goes_ Tryd.func44 (by kernel_rfl) rfl #[.agg #[.int .u8 a1_0, .int .i64 a1_1, .string a1_2]] (by rfl) rfl rfl (by (try simp only [List.map_toArray, List.map_cons, List.map_nil]); first | done | rfl | (simp only [List.length_drop, List.length_take]; rfl)) ?_
       with_reducible refine (rf17_fixed.calls a1_0 a1_1 a1_2 t457 t458 t459 t460 t461 t462 _ A57.out).mono ?_
       rintro e w62 ⟨rfl, hb⟩
       refine ⟨_, rfl, ?_⟩
       have n0_ := Aside0.mk (blk_below (bk BK432.out) hb)
       have n1_ := Aside0.mk (blk_below (bk BK433.out) hb)
       have n2_ := Aside0.mk (blk_below (bk BK434.out) hb)
       have n3_ := Aside0.mk (blk_below (bk BK449.out) hb)
       have n4_ := Aside0.mk (blk_below (bk BK450.out) hb)
       have n5_ := Aside0.mk (below_step (by repeat (first | (with_reducible first | exact HB.out | apply below_alloc | apply pw_below_drewN | apply below_drew1 | refine below_set ?_ (Aside0.out (by assumption))) | exact HB.out)) hb)
       clear BK432
       clear BK433
       clear BK434
       clear BK449
       clear BK450
       clear HB
       have BK432 := n0_
       have BK433 := n1_
       have BK434 := n2_
       have BK449 := n3_
       have BK450 := n4_
       have HB := n5_
       clear n0_ n1_ n2_ n3_ n4_ n5_
       (try clear hb)
       (try clear hb2)
       (try clear hk)
       (try clear hi)
       refine hK.out _ _ ⟨(blk_cell BK432.out 0).trans rfl, (blk_cell BK432.out 1).trans rfl, (blk_cell BK432.out 2).trans rfl, (blk_cell BK433.out 0).trans rfl, (blk_cell BK433.out 1).trans rfl, (blk_cell BK433.out 2).trans rfl⟩ (fun hHeld => ?_)
       clear hK K
       refine norm_ (a' := ?_) ?_ ?_
       rotate_left
       ·show Act.put _ (some 41) _ = _
        simp only [Act.put, List.setIfInBounds_toArray, List.set_cons_zero, List.set_cons_succ, i64_w, i32_w]
        rfl
       refine one_ (i := 4) (N := none) #[true, true, true, true, true, false, false] rfl rfl (by kernel_rfl) (by decide) (fun K hK => ?_)
       have hs63 : w62.cell? ⟨gb449, 0, none⟩ = some (.bool t437) := (blk_cell BK449.out 0).trans rfl
       have hfs63 := blk_frozen BK449.out 0
       have hns63_0 := NB432_449.out
       have hns63_1 := NB433_449.out
       have hns63_2 := NB434_449.out
       have hns63_4 := NB450_449.out
       have hms63_0 := NB449_432.out
       have hms63_1 := NB449_433.out
       have hms63_2 := NB449_434.out
       have hms63_4 := NB449_450.out
       have hs64 : w62.cell? ⟨gb449, 1, none⟩ = some (.int .u64 t438) := (blk_cell BK449.out 1).trans rfl
       have hfs64 := blk_frozen BK449.out 1
       have hns64_0 := NB432_449.out
       have hns64_1 := NB433_449.out
       have hns64_2 := NB434_449.out
       have hns64_4 := NB450_449.out
       have hms64_0 := NB449_432.out
       have hms64_1 := NB449_433.out
       have hms64_2 := NB449_434.out
       have hms64_4 := NB449_450.out
       have hs65 : w62.cell? ⟨gb449, 2, none⟩ = some (.int .u64 t439) := (blk_cell BK449.out 2).trans rfl
       have hfs65 := blk_frozen BK449.out 2
       have hns65_0 := NB432_449.out
       have hns65_1 := NB433_449.out
       have hns65_2 := NB434_449.out
       have hns65_4 := NB450_449.out
       have hms65_0 := NB449_432.out
       have hms65_1 := NB449_433.out
       have hms65_2 := NB449_434.out
       have hms65_4 := NB449_450.out
       have hs66 : w62.cell? ⟨gb449, 3, none⟩ = some (.int .u64 t440) := (blk_cell BK449.out 3).trans rfl
       have hfs66 := blk_frozen BK449.out 3
       have hns66_0 := NB432_449.out
       have hns66_1 := NB433_449.out
       have hns66_2 := NB434_449.out
       have hns66_4 := NB450_449.out
       have hms66_0 := NB449_432.out
       have hms66_1 := NB449_433.out
       have hms66_2 := NB449_434.out
       have hms66_4 := NB449_450.out
       have hs67 : w62.cell? ⟨gb449, 4, none⟩ = some (.int .u64 t441) := (blk_cell BK449.out 4).trans rfl
       have hfs67 := blk_frozen BK449.out 4
       have hns67_0 := NB432_449.out
       have hns67_1 := NB433_449.out
       have hns67_2 := NB434_449.out
       have hns67_4 := NB450_449.out
       have hms67_0 := NB449_432.out
       have hms67_1 := NB449_433.out
       have hms67_2 := NB449_434.out
       have hms67_4 := NB449_450.out
       have hs68 : w62.cell? ⟨gb449, 5, none⟩ = some (.int .u64 t442) := (blk_cell BK449.out 5).trans rfl
       have hfs68 := blk_frozen BK449.out 5
       have hns68_0 := NB432_449.out
       have hns68_1 := NB433_449.out
       have hns68_2 := NB434_449.out
       have hns68_4 := NB450_449.out
       have hms68_0 := NB449_432.out
       have hms68_1 := NB449_433.out
       have hms68_2 := NB449_434.out
       have hms68_4 := NB449_450.out
       refine skip_ (w1 := ?_) (by rfl) rfl ?_ ?_
       rotate_left
       ·go_simp
        rfl
       refine hK.out _ _ ⟨((cell_far (p := ⟨gb449, _, none⟩) NB432_449.out _).trans (((cell_far (p := ⟨gb449, _, none⟩) NB432_449.out _).trans (((cell_far (p := ⟨gb449, _, none⟩) NB432_449.out _).trans (((cell_far (p := ⟨gb449, _, none⟩) NB432_449.out _).trans (((cell_far (p := ⟨gb449, _, none⟩) NB432_449.out _).trans (((cell_far (p := ⟨gb449, _, none⟩) NB432_449.out _).trans (hHeld.1)))))))))))), ((cell_far (p := ⟨gb449, _, none⟩) NB432_449.out _).trans (((cell_far (p := ⟨gb449, _, none⟩) NB432_449.out _).trans (((cell_far (p := ⟨gb449, _, none⟩) NB432_449.out _).trans (((cell_far (p := ⟨gb449, _, none⟩) NB432_449.out _).trans (((cell_far (p := ⟨gb449, _, none⟩) NB432_449.out _).trans (((cell_far (p := ⟨gb449, _, none⟩) NB432_449.out _).trans (hHeld.2.1)))))))))))), ((cell_far (p := ⟨gb449, _, none⟩) NB432_449.out _).trans (((cell_far (p := ⟨gb449, _, none⟩) NB432_449.out _).trans (((cell_far (p := ⟨gb449, _, none⟩) NB432_449.out _).trans (((cell_far (p := ⟨gb449, _, none⟩) NB432_449.out _).trans (((cell_far (p := ⟨gb449, _, none⟩) NB432_449.out _).trans (((cell_far (p := ⟨gb449, _, none⟩) NB432_449.out _).trans (hHeld.2.2.1)))))))))))), ((cell_far (p := ⟨gb449, _, none⟩) NB433_449.out _).trans (((cell_far (p := ⟨gb449, _, none⟩) NB433_449.out _).trans (((cell_far (p := ⟨gb449, _, none⟩) NB433_449.out _).trans (((cell_far (p := ⟨gb449, _, none⟩) NB433_449.out _).trans (((cell_far (p := ⟨gb449, _, none⟩) NB433_449.out _).trans (((cell_far (p := ⟨gb449, _, none⟩) NB433_449.out _).trans (hHeld.2.2.2.1)))))))))))), ((cell_far (p := ⟨gb449, _, none⟩) NB433_449.out _).trans (((cell_far (p := ⟨gb449, _, none⟩) NB433_449.out _).trans (((cell_far (p := ⟨gb449, _, none⟩) NB433_449.out _).trans (((cell_far (p := ⟨gb449, _, none⟩) NB433_449.out _).trans (((cell_far (p := ⟨gb449, _, none⟩) NB433_449.out _).trans (((cell_far (p := ⟨gb449, _, none⟩) NB433_449.out _).trans (hHeld.2.2.2.2.1)))))))))))), ((cell_far (p := ⟨gb449, _, none⟩) NB433_449.out _).trans (((cell_far (p := ⟨gb449, _, none⟩) NB433_449.out _).trans (((cell_far (p := ⟨gb449, _, none⟩) NB433_449.out _).trans (((cell_far (p := ⟨gb449, _, none⟩) NB433_449.out _).trans (((cell_far (p := ⟨gb449, _, none⟩) NB433_449.out _).trans (((cell_far (p := ⟨gb449, _, none⟩) NB433_449.out _).trans (hHeld.2.2.2.2.2))))))))))))⟩ (fun hHeld => ?_)
       clear hK K
       refine one_ (i := 5) (N := none) #[true, true, true, true, true, true, false] rfl rfl (by kernel_rfl) (by decide) (fun K hK => ?_)
       have hs69 : w62.cell? ⟨gb450, 0, none⟩ = some (.bool t443) := (blk_cell BK450.out 0).trans rfl
       have hfs69 := blk_frozen BK450.out 0
       have hns69_0 := NB432_450.out
       have hns69_1 := NB433_450.out
       have hns69_2 := NB434_450.out
       have hns69_3 := NB449_450.out
       have hms69_0 := NB450_432.out
       have hms69_1 := NB450_433.out
       have hms69_2 := NB450_434.out
       have hms69_3 := NB450_449.out
       have hs70 : w62.cell? ⟨gb450, 1, none⟩ = some (.int .u64 t444) := (blk_cell BK450.out 1).trans rfl
       have hfs70 := blk_frozen BK450.out 1
       have hns70_0 := NB432_450.out
       have hns70_1 := NB433_450.out
       have hns70_2 := NB434_450.out
       have hns70_3 := NB449_450.out
       have hms70_0 := NB450_432.out
       have hms70_1 := NB450_433.out
       have hms70_2 := NB450_434.out
       have hms70_3 := NB450_449.out
       have hs71 : w62.cell? ⟨gb450, 2, none⟩ = some (.int .u64 t445) := (blk_cell BK450.out 2).trans rfl
       have hfs71 := blk_frozen BK450.out 2
       have hns71_0 := NB432_450.out
       have hns71_1 := NB433_450.out
       have hns71_2 := NB434_450.out
       have hns71_3 := NB449_450.out
       have hms71_0 := NB450_432.out
       have hms71_1 := NB450_433.out
       have hms71_2 := NB450_434.out
       have hms71_3 := NB450_449.out
       have hs72 : w62.cell? ⟨gb450, 3, none⟩ = some (.int .u64 t446) := (blk_cell BK450.out 3).trans rfl
       have hfs72 := blk_frozen BK450.out 3
       have hns72_0 := NB432_450.out
       have hns72_1 := NB433_450.out
       have hns72_2 := NB434_450.out
       have hns72_3 := NB449_450.out
       have hms72_0 := NB450_432.out
       have hms72_1 := NB450_433.out
       have hms72_2 := NB450_434.out
       have hms72_3 := NB450_449.out
       have hs73 : w62.cell? ⟨gb450, 4, none⟩ = some (.int .u64 t447) := (blk_cell BK450.out 4).trans rfl
       have hfs73 := blk_frozen BK450.out 4
       have hns73_0 := NB432_450.out
       have hns73_1 := NB433_450.out
       have hns73_2 := NB434_450.out
       have hns73_3 := NB449_450.out
       have hms73_0 := NB450_432.out
       have hms73_1 := NB450_433.out
       have hms73_2 := NB450_434.out
       have hms73_3 := NB450_449.out
       have hs74 : w62.cell? ⟨gb450, 5, none⟩ = some (.int .u64 t448) := (blk_cell BK450.out 5).trans rfl
       have hfs74 := blk_frozen BK450.out 5
       have hns74_0 := NB432_450.out
       have hns74_1 := NB433_450.out
       have hns74_2 := NB434_450.out
       have hns74_3 := NB449_450.out
       have hms74_0 := NB450_432.out
       have hms74_1 := NB450_433.out
       have hms74_2 := NB450_434.out
       have hms74_3 := NB450_449.out
       refine skip_ (w1 := ?_) (by rfl) rfl ?_ ?_
       rotate_left
       ·go_simp
        rfl
       refine hK.out _ _ ⟨((cell_far (p := ⟨gb450, _, none⟩) NB432_450.out _).trans (((cell_far (p := ⟨gb450, _, none⟩) NB432_450.out _).trans (((cell_far (p := ⟨gb450, _, none⟩) NB432_450.out _).trans (((cell_far (p := ⟨gb450, _, none⟩) NB432_450.out _).trans (((cell_far (p := ⟨gb450, _, none⟩) NB432_450.out _).trans (((cell_far (p := ⟨gb450, _, none⟩) NB432_450.out _).trans (hHeld.1)))))))))))), ((cell_far (p := ⟨gb450, _, none⟩) NB432_450.out _).trans (((cell_far (p := ⟨gb450, _, none⟩) NB432_450.out _).trans (((cell_far (p := ⟨gb450, _, none⟩) NB432_450.out _).trans (((cell_far (p := ⟨gb450, _, none⟩) NB432_450.out _).trans (((cell_far (p := ⟨gb450, _, none⟩) NB432_450.out _).trans (((cell_far (p := ⟨gb450, _, none⟩) NB432_450.out _).trans (hHeld.2.1)))))))))))), ((cell_far (p := ⟨gb450, _, none⟩) NB432_450.out _).trans (((cell_far (p := ⟨gb450, _, none⟩) NB432_450.out _).trans (((cell_far (p := ⟨gb450, _, none⟩) NB432_450.out _).trans (((cell_far (p := ⟨gb450, _, none⟩) NB432_450.out _).trans (((cell_far (p := ⟨gb450, _, none⟩) NB432_450.out _).trans (((cell_far (p := ⟨gb450, _, none⟩) NB432_450.out _).trans (hHeld.2.2.1)))))))))))), ((cell_far (p := ⟨gb450, _, none⟩) NB433_450.out _).trans (((cell_far (p := ⟨gb450, _, none⟩) NB433_450.out _).trans (((cell_far (p := ⟨gb450, _, none⟩) NB433_450.out _).trans (((cell_far (p := ⟨gb450, _, none⟩) NB433_450.out _).trans (((cell_far (p := ⟨gb450, _, none⟩) NB433_450.out _).trans (((cell_far (p := ⟨gb450, _, none⟩) NB433_450.out _).trans (hHeld.2.2.2.1)))))))))))), ((cell_far (p := ⟨gb450, _, none⟩) NB433_450.out _).trans (((cell_far (p := ⟨gb450, _, none⟩) NB433_450.out _).trans (((cell_far (p := ⟨gb450, _, none⟩) NB433_450.out _).trans (((cell_far (p := ⟨gb450, _, none⟩) NB433_450.out _).trans (((cell_far (p := ⟨gb450, _, none⟩) NB433_450.out _).trans (((cell_far (p := ⟨gb450, _, none⟩) NB433_450.out _).trans (hHeld.2.2.2.2.1)))))))))))), ((cell_far (p := ⟨gb450, _, none⟩) NB433_450.out _).trans (((cell_far (p := ⟨gb450, _, none⟩) NB433_450.out _).trans (((cell_far (p := ⟨gb450, _, none⟩) NB433_450.out _).trans (((cell_far (p := ⟨gb450, _, none⟩) NB433_450.out _).trans (((cell_far (p := ⟨gb450, _, none⟩) NB433_450.out _).trans (((cell_far (p := ⟨gb450, _, none⟩) NB433_450.out _).trans (hHeld.2.2.2.2.2))))))))))))⟩ (fun hHeld => ?_)
       clear hK K
       refine pure_ (i := 6) (N := some 10) (v := ?_) (a' := ?_) #[true, true, true, true, true, true, true] rfl rfl (by kernel_rfl) (fun _ _ _ h => h) (Or.inl ⟨by rfl, ?_⟩) ?_ ?_
       rotate_left
       ·intro w'
        go_simp
        with_reducible rfl
       rotate_left
       ·simp only [Act.put, List.setIfInBounds_toArray, List.set_cons_zero, List.set_cons_succ, i64_w, i32_w]
        rfl
       refine done_ (by kernel_rfl) ?_
       have hnb75 := NB450_432.out
       have hnc75 := NB432_450.out
       have hnb76 := NB450_433.out
       have hnc76 := NB433_450.out
       have hnb77 := NB450_434.out
       have hnc77 := NB434_450.out
       have hnb78 := NB450_449.out
       have hnc78 := NB449_450.out
       have hnb80 := NB449_432.out
       have hnc80 := NB432_449.out
       have hnb81 := NB449_433.out
       have hnc81 := NB433_449.out
       have hnb82 := NB449_434.out
       have hnc82 := NB434_449.out
       generalize hz : World.setCell _ ⟨gb450, 5, none⟩ _ = wz
       have n0_ := Aside0.mk (show wz.heap[gb432]? = some (.cells #[.int .u8 a0_0, .int .i64 a0_1, .string a0_2] 25 (0, 0)) by rw [← hz]; (with_reducible repeat (first | refine blk_drewN ?_ _ | refine blk_drew ?_ | refine blk_alloc ?_ _ | refine blk_far ?_ NB432_450.out _ | refine blk_far ?_ NB432_449.out _)); exact BK432.out)
       have n1_ := Aside0.mk (show wz.heap[gb433]? = some (.cells #[.int .u8 a1_0, .int .i64 a1_1, .string a1_2] 25 (0, 0)) by rw [← hz]; (with_reducible repeat (first | refine blk_drewN ?_ _ | refine blk_drew ?_ | refine blk_alloc ?_ _ | refine blk_far ?_ NB433_450.out _ | refine blk_far ?_ NB433_449.out _)); exact BK433.out)
       have n2_ := Aside0.mk (show wz.heap[gb434]? = some (.cells #[.int .u8 0, .int .i64 0, .string (⟨#[]⟩ : ByteArray)] 25 (0, 0)) by rw [← hz]; (with_reducible repeat (first | refine blk_drewN ?_ _ | refine blk_drew ?_ | refine blk_alloc ?_ _ | refine blk_far ?_ NB434_450.out _ | refine blk_far ?_ NB434_449.out _)); exact BK434.out)
       have n3_ := Aside0.mk (show wz.heap[gb449]? = some (.cells #[.bool t451, .int .u64 t452, .int .u64 t453, .int .u64 t454, .int .u64 t455, .int .u64 t456] 56 (0, 0)) by rw [← hz]; (with_reducible repeat (first | refine blk_drewN ?_ _ | refine blk_drew ?_ | refine blk_alloc ?_ _ | refine blk_far ?_ NB449_450.out _)); refine blk_put (cs := #[.bool t451, .int .u64 t452, .int .u64 t453, .int .u64 t454, .int .u64 t455, .int .u64 t442]) ?_ 5 _ rfl; (with_reducible repeat (first | refine blk_drewN ?_ _ | refine blk_drew ?_ | refine blk_alloc ?_ _ | refine blk_far ?_ NB449_450.out _)); refine blk_put (cs := #[.bool t451, .int .u64 t452, .int .u64 t453, .int .u64 t454, .int .u64 t441, .int .u64 t442]) ?_ 4 _ rfl; (with_reducible repeat (first | refine blk_drewN ?_ _ | refine blk_drew ?_ | refine blk_alloc ?_ _ | refine blk_far ?_ NB449_450.out _)); refine blk_put (cs := #[.bool t451, .int .u64 t452, .int .u64 t453, .int .u64 t440, .int .u64 t441, .int .u64 t442]) ?_ 3 _ rfl; (with_reducible repeat (first | refine blk_drewN ?_ _ | refine blk_drew ?_ | refine blk_alloc ?_ _ | refine blk_far ?_ NB449_450.out _)); refine blk_put (cs := #[.bool t451, .int .u64 t452, .int .u64 t439, .int .u64 t440, .int .u64 t441, .int .u64 t442]) ?_ 2 _ rfl; (with_reducible repeat (first | refine blk_drewN ?_ _ | refine blk_drew ?_ | refine blk_alloc ?_ _ | refine blk_far ?_ NB449_450.out _)); refine blk_put (cs := #[.bool t451, .int .u64 t438, .int .u64 t439, .int .u64 t440, .int .u64 t441, .int .u64 t442]) ?_ 1 _ rfl; (with_reducible repeat (first | refine blk_drewN ?_ _ | refine blk_drew ?_ | refine blk_alloc ?_ _ | refine blk_far ?_ NB449_450.out _)); refine blk_put (cs := #[.bool t437, .int .u64 t438, .int .u64 t439, .int .u64 t440, .int .u64 t441, .int .u64 t442]) ?_ 0 _ rfl; (with_reducible repeat (first | refine blk_drewN ?_ _ | refine blk_drew ?_ | refine blk_alloc ?_ _ | refine blk_far ?_ NB449_450.out _)); exact BK449.out)
       have n4_ := Aside0.mk (show wz.heap[gb450]? = some (.cells #[.bool t457, .int .u64 t458, .int .u64 t459, .int .u64 t460, .int .u64 t461, .int .u64 t462] 56 (0, 0)) by rw [← hz]; (with_reducible repeat (first | refine blk_drewN ?_ _ | refine blk_drew ?_ | refine blk_alloc ?_ _ | refine blk_far ?_ NB450_449.out _)); refine blk_put (cs := #[.bool t457, .int .u64 t458, .int .u64 t459, .int .u64 t460, .int .u64 t461, .int .u64 t448]) ?_ 5 _ rfl; (with_reducible repeat (first | refine blk_drewN ?_ _ | refine blk_drew ?_ | refine blk_alloc ?_ _ | refine blk_far ?_ NB450_449.out _)); refine blk_put (cs := #[.bool t457, .int .u64 t458, .int .u64 t459, .int .u64 t460, .int .u64 t447, .int .u64 t448]) ?_ 4 _ rfl; (with_reducible repeat (first | refine blk_drewN ?_ _ | refine blk_drew ?_ | refine blk_alloc ?_ _ | refine blk_far ?_ NB450_449.out _)); refine blk_put (cs := #[.bool t457, .int .u64 t458, .int .u64 t459, .int .u64 t446, .int .u64 t447, .int .u64 t448]) ?_ 3 _ rfl; (with_reducible repeat (first | refine blk_drewN ?_ _ | refine blk_drew ?_ | refine blk_alloc ?_ _ | refine blk_far ?_ NB450_449.out _)); refine blk_put (cs := #[.bool t457, .int .u64 t458, .int .u64 t445, .int .u64 t446, .int .u64 t447, .int .u64 t448]) ?_ 2 _ rfl; (with_reducible repeat (first | refine blk_drewN ?_ _ | refine blk_drew ?_ | refine blk_alloc ?_ _ | refine blk_far ?_ NB450_449.out _)); refine blk_put (cs := #[.bool t457, .int .u64 t444, .int .u64 t445, .int .u64 t446, .int .u64 t447, .int .u64 t448]) ?_ 1 _ rfl; (with_reducible repeat (first | refine blk_drewN ?_ _ | refine blk_drew ?_ | refine blk_alloc ?_ _ | refine blk_far ?_ NB450_449.out _)); refine blk_put (cs := #[.bool t443, .int .u64 t444, .int .u64 t445, .int .u64 t446, .int .u64 t447, .int .u64 t448]) ?_ 0 _ rfl; (with_reducible repeat (first | refine blk_drewN ?_ _ | refine blk_drew ?_ | refine blk_alloc ?_ _ | refine blk_far ?_ NB450_449.out _)); exact BK450.out)
       have n5_ := Aside0.mk (show Below w.heap.size w wz by rw [← hz]; repeat (first | (with_reducible first | exact HB.out | apply below_alloc | apply pw_below_drewN | apply below_drew1 | refine below_set ?_ (Aside0.out (by assumption))) | exact HB.out))
       clear hz
       clear BK432
       clear BK433
       clear BK434
       clear BK449
       clear BK450
       clear HB
       have BK432 := n0_
       have BK433 := n1_
       have BK434 := n2_
       have BK449 := n3_
       have BK450 := n4_
       have HB := n5_
       clear n0_ n1_ n2_ n3_ n4_ n5_
       have hya_0 : wz.cell? ⟨gb450, 0, none⟩ = some (.bool t457) := (blk_cell BK450.out 0).trans rfl
       have hya_1 : wz.cell? ⟨gb450, 1, none⟩ = some (.int .u64 t458) := (blk_cell BK450.out 1).trans rfl
       have hya_2 : wz.cell? ⟨gb450, 2, none⟩ = some (.int .u64 t459) := (blk_cell BK450.out 2).trans rfl
       have hya_3 : wz.cell? ⟨gb450, 3, none⟩ = some (.int .u64 t460) := (blk_cell BK450.out 3).trans rfl
       have hya_4 : wz.cell? ⟨gb450, 4, none⟩ = some (.int .u64 t461) := (blk_cell BK450.out 4).trans rfl
       have hya_5 : wz.cell? ⟨gb450, 5, none⟩ = some (.int .u64 t462) := (blk_cell BK450.out 5).trans rfl
       have hva_0 := blk_frozen BK450.out 0
       have hva_1 := blk_frozen BK450.out 1
       have hva_2 := blk_frozen BK450.out 2
       have hva_3 := blk_frozen BK450.out 3
       have hva_4 := blk_frozen BK450.out 4
       have hva_5 := blk_frozen BK450.out 5
       have hyb_0 : wz.cell? ⟨gb449, 0, none⟩ = some (.bool t451) := (blk_cell BK449.out 0).trans rfl
       have hyb_1 : wz.cell? ⟨gb449, 1, none⟩ = some (.int .u64 t452) := (blk_cell BK449.out 1).trans rfl
       have hyb_2 : wz.cell? ⟨gb449, 2, none⟩ = some (.int .u64 t453) := (blk_cell BK449.out 2).trans rfl
       have hyb_3 : wz.cell? ⟨gb449, 3, none⟩ = some (.int .u64 t454) := (blk_cell BK449.out 3).trans rfl
       have hyb_4 : wz.cell? ⟨gb449, 4, none⟩ = some (.int .u64 t455) := (blk_cell BK449.out 4).trans rfl
       have hyb_5 : wz.cell? ⟨gb449, 5, none⟩ = some (.int .u64 t456) := (blk_cell BK449.out 5).trans rfl
       have hvb_0 := blk_frozen BK449.out 0
       have hvb_1 := blk_frozen BK449.out 1
       have hvb_2 := blk_frozen BK449.out 2
       have hvb_3 := blk_frozen BK449.out 3
       have hvb_4 := blk_frozen BK449.out 4
       have hvb_5 := blk_frozen BK449.out 5
       go_wp2_with (first | ((with_reducible refine gate_callee (f := 46) rfl ?_); refine goesL_ (some 49) rfl rfl Tryd.func46 (by kernel_rfl) rfl #[.agg #[.bool t451, .int .u64 t452, .int .u64 t453, .int .u64 t454, .int .u64 t455, .int .u64 t456], .agg #[.bool (!t457), .int .u64 t458, .int .u64 t459, .int .u64 t460, .int .u64 t461, .int .u64 t462]] rfl (by (try simp only [List.map_toArray, List.map_cons, List.map_nil]); first | done | rfl | (simp only [List.length_drop, List.length_take]; rfl)) ?_; (with_reducible refine (rf17_add.calls t451 t452 t453 t454 t455 t456 (!t457) t458 t459 t460 t461 t462 t463 t464 t465 t466 t467 t468 _ A58.out).mono ?_); rintro e w84 ⟨rfl, hb⟩; refine ⟨_, rfl, ?_⟩; have n0_ := Aside0.mk (blk_below (g := gb432) (o := .cells #[.int .u8 a0_0, .int .i64 a0_1, .string a0_2] 25 (0, 0)) (by (with_reducible repeat (first | refine blk_drewN ?_ _ | refine blk_drew ?_ | refine blk_alloc ?_ _ | refine blk_far ?_ NB432_450.out _)); exact BK432.out) hb); have n1_ := Aside0.mk (blk_below (g := gb433) (o := .cells #[.int .u8 a1_0, .int .i64 a1_1, .string a1_2] 25 (0, 0)) (by (with_reducible repeat (first | refine blk_drewN ?_ _ | refine blk_drew ?_ | refine blk_alloc ?_ _ | refine blk_far ?_ NB433_450.out _)); exact BK433.out) hb); have n2_ := Aside0.mk (blk_below (g := gb434) (o := .cells #[.int .u8 0, .int .i64 0, .string (⟨#[]⟩ : ByteArray)] 25 (0, 0)) (by (with_reducible repeat (first | refine blk_drewN ?_ _ | refine blk_drew ?_ | refine blk_alloc ?_ _ | refine blk_far ?_ NB434_450.out _)); exact BK434.out) hb); have n3_ := Aside0.mk (blk_below (g := gb449) (o := .cells #[.bool t451, .int .u64 t452, .int .u64 t453, .int .u64 t454, .int .u64 t455, .int .u64 t456] 56 (0, 0)) (by (with_reducible repeat (first | refine blk_drewN ?_ _ | refine blk_drew ?_ | refine blk_alloc ?_ _ | refine blk_far ?_ NB449_450.out _)); exact BK449.out) hb); have n4_ := Aside0.mk (blk_below (g := gb450) (o := .cells #[.bool (!t457), .int .u64 t458, .int .u64 t459, .int .u64 t460, .int .u64 t461, .int .u64 t462] 56 (0, 0)) (by (with_reducible repeat first | apply blk_drewN | apply blk_drew | apply blk_alloc); refine blk_put (cs := #[.bool t457, .int .u64 t458, .int .u64 t459, .int .u64 t460, .int .u64 t461, .int .u64 t462]) ?_ 0 _ rfl; (with_reducible repeat first | apply blk_drewN | apply blk_drew | apply blk_alloc); exact BK450.out) hb); have n5_ := Aside0.mk (below_step (by repeat (first | (with_reducible first | exact HB.out | apply below_alloc | apply pw_below_drewN | apply below_drew1 | refine below_set ?_ (Aside0.out (by assumption))) | exact HB.out)) hb); clear BK432; clear BK433; clear BK434; clear BK449; clear BK450; clear HB; have BK432 := n0_; have BK433 := n1_; have BK434 := n2_; have BK449 := n3_; have BK450 := n4_; have HB := n5_; clear n0_ n1_ n2_ n3_ n4_ n5_; (try clear hb); (try clear hb2); (try clear hk); (try clear hi)) | ((with_reducible refine gate_callee (f := 65) rfl ?_); refine goesL_ (some 50) rfl rfl Tryd.func65 (by kernel_rfl) rfl #[.int .u8 3, .agg #[.bool t463, .int .u64 t464, .int .u64 t465, .int .u64 t466, .int .u64 t467, .int .u64 t468]] rfl (by (try simp only [List.map_toArray, List.map_cons, List.map_nil]); first | done | rfl | (simp only [List.length_drop, List.length_take]; rfl)) ?_; (with_reducible refine (rf17_answer.calls 3 t463 t464 t465 t466 t467 t468 t469 t470 t471 t472 _ A59.out).mono ?_); rintro e w85 ⟨rfl, hb⟩; refine ⟨_, rfl, ?_⟩; have n0_ := Aside0.mk (blk_below (bk BK432.out) hb); have n1_ := Aside0.mk (blk_below (bk BK433.out) hb); have n2_ := Aside0.mk (blk_below (bk BK434.out) hb); have n3_ := Aside0.mk (blk_below (bk BK449.out) hb); have n4_ := Aside0.mk (blk_below (bk BK450.out) hb); have n5_ := Aside0.mk (below_step (by repeat (first | (with_reducible first | exact HB.out | apply below_alloc | apply pw_below_drewN | apply below_drew1 | refine below_set ?_ (Aside0.out (by assumption))) | exact HB.out)) hb); clear BK432; clear BK433; clear BK434; clear BK449; clear BK450; clear HB; have BK432 := n0_; have BK433 := n1_; have BK434 := n2_; have BK449 := n3_; have BK450 := n4_; have HB := n5_; clear n0_ n1_ n2_ n3_ n4_ n5_; (try clear hb); (try clear hb2); (try clear hk); (try clear hi); have hnb86 := NB434_432.out; have hnc86 := NB432_434.out; have hnb87 := NB434_433.out; have hnc87 := NB433_434.out; have hcz88_0 : w85.cell? ⟨gb434, 0, none⟩ = some (.int .u8 0) := (blk_cell BK434.out 0).trans rfl; have hcz88_1 : w85.cell? ⟨gb434, 1, none⟩ = some (.int .i64 0) := (blk_cell BK434.out 1).trans rfl; have hcz88_2 : w85.cell? ⟨gb434, 2, none⟩ = some (.string (⟨#[]⟩ : ByteArray)) := (blk_cell BK434.out 2).trans rfl; have hfz88_0 := blk_frozen BK434.out 0; have hfz88_1 := blk_frozen BK434.out 1; have hfz88_2 := blk_frozen BK434.out 2))
       refine bodyPost_ret (results_ct rfl _ _ gb434 25 #[.int .u8 t469, .int .i64 t470, .string t471] (0, 0) _ rfl (by (with_reducible repeat first | apply blk_drewN | apply blk_drew | apply blk_alloc); refine blk_put (cs := #[.int .u8 t469, .int .i64 t470, .string (⟨#[]⟩ : ByteArray)]) ?_ 2 _ rfl; (with_reducible repeat first | apply blk_drewN | apply blk_drew | apply blk_alloc); refine blk_put (cs := #[.int .u8 t469, .int .i64 0, .string (⟨#[]⟩ : ByteArray)]) ?_ 1 _ rfl; (with_reducible repeat first | apply blk_drewN | apply blk_drew | apply blk_alloc); refine blk_put (cs := #[.int .u8 0, .int .i64 0, .string (⟨#[]⟩ : ByteArray)]) ?_ 0 _ rfl; (with_reducible repeat first | apply blk_drewN | apply blk_drew | apply blk_alloc); exact BK434.out) Tryd.underlying25 rfl (by kernel_rfl)) rfl ?_
       exact ⟨by first | rfl | (simp [errW_none, errW_some] <;> rfl) | (simp [*, errW_none, errW_some] <;> rfl), by repeat (first | (with_reducible first | exact HB.out | apply below_alloc | apply pw_below_drewN | apply below_drew1 | refine below_set ?_ (Aside0.out (by assumption))) | exact HB.out)⟩
      ·replace c55 := Bool.eq_false_iff.mpr c55
       subst c55
       have H1 : ((rf17_add.f t437 t438 t439 t440 t441 t442 (!t443) t444 t445 t446 t447 t448).bind fun bt473 => ((rf17_answer.f 2 bt473.1 bt473.2.1 bt473.2.2.1 bt473.2.2.2.1 bt473.2.2.2.2.1 bt473.2.2.2.2.2).bind fun bt479 => (some (bt479.1, bt479.2.1, bt479.2.2.1, bt479.2.2.2)))) = some (r1, r2, r3, r4) := by rw [if_neg (show ¬ (false = true) by decide)] at H; exact H
       clear H
       have H := H1
       clear H1
       replace H := Option.bind_eq_some_iff.mp H
       obtain ⟨⟨t473, t474, t475, t476, t477, t478⟩, A890, H⟩ := H
       replace H : ((rf17_answer.f 2 t473 t474 t475 t476 t477 t478).bind fun bt479 => (some (bt479.1, bt479.2.1, bt479.2.2.1, bt479.2.2.2))) = some (r1, r2, r3, r4) := H
       have A89 := Aside0.mk A890
       clear A890
       replace H := Option.bind_eq_some_iff.mp H
       obtain ⟨⟨t479, t480, t481, t482⟩, A900, H⟩ := H
       replace H : (some (t479, t480, t481, t482)) = some (r1, r2, r3, r4) := H
       have A90 := Aside0.mk A900
       clear A900
       simp only [Option.some.injEq, Prod.mk.injEq] at H
       obtain ⟨rfl, rfl, rfl, rfl⟩ := H
       have hnb91 := NB450_432.out
       have hnc91 := NB432_450.out
       have hnb92 := NB450_433.out
       have hnc92 := NB433_450.out
       have hnb93 := NB450_434.out
       have hnc93 := NB434_450.out
       have hnb94 := NB450_449.out
       have hnc94 := NB449_450.out
       have hcz95_0 : wc.cell? ⟨gb450, 0, none⟩ = some (.bool t443) := (blk_cell BK450.out 0).trans rfl
       have hcz95_1 : wc.cell? ⟨gb450, 1, none⟩ = some (.int .u64 t444) := (blk_cell BK450.out 1).trans rfl
       have hcz95_2 : wc.cell? ⟨gb450, 2, none⟩ = some (.int .u64 t445) := (blk_cell BK450.out 2).trans rfl
       have hcz95_3 : wc.cell? ⟨gb450, 3, none⟩ = some (.int .u64 t446) := (blk_cell BK450.out 3).trans rfl
       have hcz95_4 : wc.cell? ⟨gb450, 4, none⟩ = some (.int .u64 t447) := (blk_cell BK450.out 4).trans rfl
       have hcz95_5 : wc.cell? ⟨gb450, 5, none⟩ = some (.int .u64 t448) := (blk_cell BK450.out 5).trans rfl
       have hfz95_0 := blk_frozen BK450.out 0
       have hfz95_1 := blk_frozen BK450.out 1
       have hfz95_2 := blk_frozen BK450.out 2
       have hfz95_3 := blk_frozen BK450.out 3
       have hfz95_4 := blk_frozen BK450.out 4
       have hfz95_5 := blk_frozen BK450.out 5
       have hnb96 := NB449_432.out
       have hnc96 := NB432_449.out
       have hnb97 := NB449_433.out
       have hnc97 := NB433_449.out
       have hnb98 := NB449_434.out
       have hnc98 := NB434_449.out
       have hcz99_0 : wc.cell? ⟨gb449, 0, none⟩ = some (.bool t437) := (blk_cell BK449.out 0).trans rfl
       have hcz99_1 : wc.cell? ⟨gb449, 1, none⟩ = some (.int .u64 t438) := (blk_cell BK449.out 1).trans rfl
       have hcz99_2 : wc.cell? ⟨gb449, 2, none⟩ = some (.int .u64 t439) := (blk_cell BK449.out 2).trans rfl
       have hcz99_3 : wc.cell? ⟨gb449, 3, none⟩ = some (.int .u64 t440) := (blk_cell BK449.out 3).trans rfl
       have hcz99_4 : wc.cell? ⟨gb449, 4, none⟩ = some (.int .u64 t441) := (blk_cell BK449.out 4).trans rfl
       have hcz99_5 : wc.cell? ⟨gb449, 5, none⟩ = some (.int .u64 t442) := (blk_cell BK449.out 5).trans rfl
       have hfz99_0 := blk_frozen BK449.out 0
       have hfz99_1 := blk_frozen BK449.out 1
       have hfz99_2 := blk_frozen BK449.out 2
       have hfz99_3 := blk_frozen BK449.out 3
       have hfz99_4 := blk_frozen BK449.out 4
       have hfz99_5 := blk_frozen BK449.out 5
       go_wp2_with (first | ((with_reducible refine gate_callee (f := 46) rfl ?_); refine goesL_ (some 49) rfl rfl Tryd.func46 (by kernel_rfl) rfl #[.agg #[.bool t437, .int .u64 t438, .int .u64 t439, .int .u64 t440, .int .u64 t441, .int .u64 t442], .agg #[.bool (!t443), .int .u64 t444, .int .u64 t445, .int .u64 t446, .int .u64 t447, .int .u64 t448]] rfl (by (try simp only [List.map_toArray, List.map_cons, List.map_nil]); first | done | rfl | (simp only [List.length_drop, List.length_take]; rfl)) ?_; (with_reducible refine (rf17_add.calls t437 t438 t439 t440 t441 t442 (!t443) t444 t445 t446 t447 t448 t473 t474 t475 t476 t477 t478 _ A89.out).mono ?_); rintro e w100 ⟨rfl, hb⟩; refine ⟨_, rfl, ?_⟩; have n0_ := Aside0.mk (blk_below (g := gb432) (o := .cells #[.int .u8 a0_0, .int .i64 a0_1, .string a0_2] 25 (0, 0)) (by (with_reducible repeat (first | refine blk_drewN ?_ _ | refine blk_drew ?_ | refine blk_alloc ?_ _ | refine blk_far ?_ NB432_450.out _)); exact BK432.out) hb); have n1_ := Aside0.mk (blk_below (g := gb433) (o := .cells #[.int .u8 a1_0, .int .i64 a1_1, .string a1_2] 25 (0, 0)) (by (with_reducible repeat (first | refine blk_drewN ?_ _ | refine blk_drew ?_ | refine blk_alloc ?_ _ | refine blk_far ?_ NB433_450.out _)); exact BK433.out) hb); have n2_ := Aside0.mk (blk_below (g := gb434) (o := .cells #[.int .u8 0, .int .i64 0, .string (⟨#[]⟩ : ByteArray)] 25 (0, 0)) (by (with_reducible repeat (first | refine blk_drewN ?_ _ | refine blk_drew ?_ | refine blk_alloc ?_ _ | refine blk_far ?_ NB434_450.out _)); exact BK434.out) hb); have n3_ := Aside0.mk (blk_below (g := gb449) (o := .cells #[.bool t437, .int .u64 t438, .int .u64 t439, .int .u64 t440, .int .u64 t441, .int .u64 t442] 56 (0, 0)) (by (with_reducible repeat (first | refine blk_drewN ?_ _ | refine blk_drew ?_ | refine blk_alloc ?_ _ | refine blk_far ?_ NB449_450.out _)); exact BK449.out) hb); have n4_ := Aside0.mk (blk_below (g := gb450) (o := .cells #[.bool (!t443), .int .u64 t444, .int .u64 t445, .int .u64 t446, .int .u64 t447, .int .u64 t448] 56 (0, 0)) (by (with_reducible repeat first | apply blk_drewN | apply blk_drew | apply blk_alloc); refine blk_put (cs := #[.bool t443, .int .u64 t444, .int .u64 t445, .int .u64 t446, .int .u64 t447, .int .u64 t448]) ?_ 0 _ rfl; (with_reducible repeat first | apply blk_drewN | apply blk_drew | apply blk_alloc); exact BK450.out) hb); have n5_ := Aside0.mk (below_step (by repeat (first | (with_reducible first | exact HB.out | apply below_alloc | apply pw_below_drewN | apply below_drew1 | refine below_set ?_ (Aside0.out (by assumption))) | exact HB.out)) hb); clear BK432; clear BK433; clear BK434; clear BK449; clear BK450; clear HB; have BK432 := n0_; have BK433 := n1_; have BK434 := n2_; have BK449 := n3_; have BK450 := n4_; have HB := n5_; clear n0_ n1_ n2_ n3_ n4_ n5_; (try clear hb); (try clear hb2); (try clear hk); (try clear hi)) | ((with_reducible refine gate_callee (f := 65) rfl ?_); refine goesL_ (some 50) rfl rfl Tryd.func65 (by kernel_rfl) rfl #[.int .u8 2, .agg #[.bool t473, .int .u64 t474, .int .u64 t475, .int .u64 t476, .int .u64 t477, .int .u64 t478]] rfl (by (try simp only [List.map_toArray, List.map_cons, List.map_nil]); first | done | rfl | (simp only [List.length_drop, List.length_take]; rfl)) ?_; (with_reducible refine (rf17_answer.calls 2 t473 t474 t475 t476 t477 t478 t479 t480 t481 t482 _ A90.out).mono ?_); rintro e w101 ⟨rfl, hb⟩; refine ⟨_, rfl, ?_⟩; have n0_ := Aside0.mk (blk_below (bk BK432.out) hb); have n1_ := Aside0.mk (blk_below (bk BK433.out) hb); have n2_ := Aside0.mk (blk_below (bk BK434.out) hb); have n3_ := Aside0.mk (blk_below (bk BK449.out) hb); have n4_ := Aside0.mk (blk_below (bk BK450.out) hb); have n5_ := Aside0.mk (below_step (by repeat (first | (with_reducible first | exact HB.out | apply below_alloc | apply pw_below_drewN | apply below_drew1 | refine below_set ?_ (Aside0.out (by assumption))) | exact HB.out)) hb); clear BK432; clear BK433; clear BK434; clear BK449; clear BK450; clear HB; have BK432 := n0_; have BK433 := n1_; have BK434 := n2_; have BK449 := n3_; have BK450 := n4_; have HB := n5_; clear n0_ n1_ n2_ n3_ n4_ n5_; (try clear hb); (try clear hb2); (try clear hk); (try clear hi); have hnb102 := NB434_432.out; have hnc102 := NB432_434.out; have hnb103 := NB434_433.out; have hnc103 := NB433_434.out; have hcz104_0 : w101.cell? ⟨gb434, 0, none⟩ = some (.int .u8 0) := (blk_cell BK434.out 0).trans rfl; have hcz104_1 : w101.cell? ⟨gb434, 1, none⟩ = some (.int .i64 0) := (blk_cell BK434.out 1).trans rfl; have hcz104_2 : w101.cell? ⟨gb434, 2, none⟩ = some (.string (⟨#[]⟩ : ByteArray)) := (blk_cell BK434.out 2).trans rfl; have hfz104_0 := blk_frozen BK434.out 0; have hfz104_1 := blk_frozen BK434.out 1; have hfz104_2 := blk_frozen BK434.out 2))
       refine bodyPost_ret (results_ct rfl _ _ gb434 25 #[.int .u8 t479, .int .i64 t480, .string t481] (0, 0) _ rfl (by (with_reducible repeat first | apply blk_drewN | apply blk_drew | apply blk_alloc); refine blk_put (cs := #[.int .u8 t479, .int .i64 t480, .string (⟨#[]⟩ : ByteArray)]) ?_ 2 _ rfl; (with_reducible repeat first | apply blk_drewN | apply blk_drew | apply blk_alloc); refine blk_put (cs := #[.int .u8 t479, .int .i64 0, .string (⟨#[]⟩ : ByteArray)]) ?_ 1 _ rfl; (with_reducible repeat first | apply blk_drewN | apply blk_drew | apply blk_alloc); refine blk_put (cs := #[.int .u8 0, .int .i64 0, .string (⟨#[]⟩ : ByteArray)]) ?_ 0 _ rfl; (with_reducible repeat first | apply blk_drewN | apply blk_drew | apply blk_alloc); exact BK434.out) Tryd.underlying25 rfl (by kernel_rfl)) rfl ?_
       exact ⟨by first | rfl | (simp [errW_none, errW_some] <;> rfl) | (simp [*, errW_none, errW_some] <;> rfl), by repeat (first | (with_reducible first | exact HB.out | apply below_alloc | apply pw_below_drewN | apply below_drew1 | refine below_set ?_ (Aside0.out (by assumption))) | exact HB.out)⟩
end Go.Proofs.YtbodlnoipkommaaDoor.Q

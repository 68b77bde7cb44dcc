/- Merged out of this session's texts: Qxf24 -/
import Derived.Test.YtbodlnoipkommaaDoorZr3
import Derived.Test.YtbodlnoipkommaaDoorZr7
import Derived.Test.YtbodlnoipkommaaDoorZr5
import Derived.Test.YtbodlnoipkommaaDoorZr6
set_option linter.unusedVariables false
set_option linter.unusedSimpArgs false
namespace Go.Proofs.YtbodlnoipkommaaDoor.Q
open Go.Proofs.YtbodlnoipkommaaDoor.Rb Go.Proofs.YtbodlnoipkommaaDoor.Rc Go.Proofs.YtbodlnoipkommaaDoor.Rd
open Go.RowKit Go.Proofs.YtbodlnoipkommaaDoorW.PrintWords Go.Proofs.YtbodlnoipkommaaDoorW.PrintLast Go.Proofs.YtbodlnoipkommaaDoorW.PrintMore
attribute [local go_sem] max2_int min2_int max_two min_two max_three min_three max_four min_four
set_option linter.unusedVariables false
set_option linter.unusedSimpArgs false
mutual
def rf17_Mul.j0 : Nat → Int → Bool → Int → Int → ByteArray → Int → Int → ByteArray → Option (Int × Int × ByteArray × Int)
 | 0, _, _, _, _, _, _, _, _ => none
 | k + 1, x7, x21, x484000, x484001, x484002, x485000, x485001, x485002 => if x21 = true then (some (0, 0, (⟨#[]⟩ : ByteArray), x7)) else ((rf17_big.f x484001).bind fun bt488 => ((rf17_big.f x485001).bind fun bt494 => ((rf17_times.f bt488.1 bt488.2.1 bt488.2.2.1 bt488.2.2.2.1 bt488.2.2.2.2.1 bt488.2.2.2.2.2 bt494.1 bt494.2.1 bt494.2.2.1 bt494.2.2.2.1 bt494.2.2.2.2.1 bt494.2.2.2.2.2).bind fun bt500 => (if x484000 = x485000 then (if x484000 = 2 then ((rf17_answer.f 2 bt500.1 bt500.2.1 bt500.2.2.1 bt500.2.2.2.1 bt500.2.2.2.2.1 bt500.2.2.2.2.2).bind fun bt511 => (some (bt511.1, bt511.2.1, bt511.2.2.1, bt511.2.2.2))) else ((rf17_less.f bt500.2.1 bt500.2.2.1 bt500.2.2.2.1 bt500.2.2.2.2.1 bt500.2.2.2.2.2).bind fun bt515 => (if bt515.2.2.2.2.2 > 5000 then (rf17_Mul.j1 k true bt500.1 bt500.2.1 bt500.2.2.1 bt500.2.2.2.1 bt500.2.2.2.2.1 bt500.2.2.2.2.2 bt515.1 bt515.2.1 bt515.2.2.1 bt515.2.2.2.1 bt515.2.2.2.2.1) else (if bt515.2.2.2.2.2 = 5000 then (rf17_Mul.j1 k ((Int.tmod bt515.1 2) == 1) bt500.1 bt500.2.1 bt500.2.2.1 bt500.2.2.2.1 bt500.2.2.2.2.1 bt500.2.2.2.2.2 bt515.1 bt515.2.1 bt515.2.2.1 bt515.2.2.2.1 bt515.2.2.2.2.1) else (rf17_Mul.j1 k false bt500.1 bt500.2.1 bt500.2.2.1 bt500.2.2.2.1 bt500.2.2.2.2.1 bt500.2.2.2.2.2 bt515.1 bt515.2.1 bt515.2.2.1 bt515.2.2.2.1 bt515.2.2.2.2.1))))) else ((rf17_answer.f 3 bt500.1 bt500.2.1 bt500.2.2.1 bt500.2.2.2.1 bt500.2.2.2.2.1 bt500.2.2.2.2.2).bind fun bt507 => (some (bt507.1, bt507.2.1, bt507.2.2.1, bt507.2.2.2)))))))
def rf17_Mul.j1 : Nat → Bool → Bool → Int → Int → Int → Int → Int → Int → Int → Int → Int → Int → Option (Int × Int × ByteArray × Int)
 | 0, _, _, _, _, _, _, _, _, _, _, _, _ => none
 | k + 1, x64, x507000, x507001, x507002, x507003, x507004, x507005, x522000, x522001, x522002, x522003, x522004 => if x64 = true then ((rf17_plus.f x522000 x522001 x522002 x522003 x522004 1 0 0 0 0).bind fun bt522 => ((rf17_answer.f 3 x507000 bt522.1 bt522.2.1 bt522.2.2.1 bt522.2.2.2.1 bt522.2.2.2.2).bind fun bt527 => (some (bt527.1, bt527.2.1, bt527.2.2.1, bt527.2.2.2)))) else ((rf17_answer.f 3 x507000 x522000 x522001 x522002 x522003 x522004).bind fun bt531 => (some (bt531.1, bt531.2.1, bt531.2.2.1, bt531.2.2.2)))
end
def rf17_Mul.f (k : Nat) (a0_0 : Int) (a0_1 : Int) (a0_2 : ByteArray) (a1_0 : Int) (a1_1 : Int) (a1_2 : ByteArray) : Option (Int × Int × ByteArray × Int) := (rf17_asked.f k a0_0 a0_1 a0_2 a1_0 a1_1 a1_2).bind fun bt486 => (if bt486.2 = 0 then (rf17_Mul.j0 k bt486.2 bt486.1 a0_0 a0_1 a0_2 a1_0 a1_1 a1_2) else (rf17_Mul.j0 k bt486.2 true a0_0 a0_1 a0_2 a1_0 a1_1 a1_2))
def rf17_Mul.T4 : Bool × List (List Nat × List Nat) := (true, [([], []), ([0], [0]), ([1], [1]), ([], []), ([3], [3]), ([4, 2], [4]), ([2, 5, 5], [2, 5]), ([], []), ([7, 6, 6, 0, 1, 2, 3, 4, 5, 6, 7], [6, 7])])
def rf17_Mul.B4 : List Nat := [0, 1, 3, 0, 8, 31, 63, 0, 255]
theorem rf17_Mul.tab4 : rtab .any (opsOf Tryd.f24 4) = rf17_Mul.T4 := by kernel_rfl
theorem rf17_Mul.bits4 : waitsOk rf17_Mul.T4.2 rf17_Mul.B4 = true := by kernel_rfl
set_option maxHeartbeats 8000000 in
set_option maxRecDepth 100000 in
theorem rf17_Mul.calls (k : Nat) (a0_0 : Int) (a0_1 : Int) (a0_2 : ByteArray) (a1_0 : Int) (a1_1 : Int) (a1_2 : ByteArray) (r1 : Int) (r2 : Int) (r3 : ByteArray) (r4 : Int) (w : World) (h : rf17_Mul.f k a0_0 a0_1 a0_2 a1_0 a1_1 a1_2 = some (r1, r2, r3, r4)) :
  Calls Tryd.prog 24 #[.agg #[.int .u8 a0_0, .int .i64 a0_1, .string a0_2], .agg #[.int .u8 a1_0, .int .i64 a1_1, .string a1_2]] w fun e w' => e = .returned (.tuple #[.agg #[.int .u8 r1, .int .i64 r2, .string r3], .int .i64 r4]) ∧ Below w.heap.size w w' := by
 have hu25 := Tryd.underlying25
 have hu56 := Tryd.underlying56
 have hu54 := Tryd.underlying54
 have HB := Aside0.mk (Below.refl w.heap.size w)
 have H : ((rf17_asked.f k a0_0 a0_1 a0_2 a1_0 a1_1 a1_2).bind fun bt486 => (if bt486.2 = 0 then (rf17_Mul.j0 k bt486.2 bt486.1 a0_0 a0_1 a0_2 a1_0 a1_1 a1_2) else (rf17_Mul.j0 k bt486.2 true a0_0 a0_1 a0_2 a1_0 a1_1 a1_2))) = some (r1, r2, r3, r4) := h
 clear h
 replace H := Option.bind_eq_some_iff.mp H
 obtain ⟨⟨t486, t487⟩, A30, H⟩ := H
 replace H : (if t487 = 0 then (rf17_Mul.j0 k t487 t486 a0_0 a0_1 a0_2 a1_0 a1_1 a1_2) else (rf17_Mul.j0 k t487 true a0_0 a0_1 a0_2 a1_0 a1_1 a1_2)) = some (r1, r2, r3, r4) := H
 have A3 := Aside0.mk A30
 clear A30
 have HC4 := Aside0.mk H
 clear H
 go_enter Tryd.func24, Tryd.ntmps24
 go_upto_region 2 with (first | ((with_reducible refine gate_dst (N := 2) rfl ?_); refine box_event ?hg (N := 2) ?hd (cs := #[.int .u8 a0_0, .int .i64 a0_1, .string a0_2]) (t := 25) ?hr ?_; (case hd => rfl); (case hg => rfl); (case hr => first | (go_simp; done) | (go_simp; rfl)); intro gb483 hg w5 hbox hb; have n0_ := Aside0.mk (below_step (bw HB.out) hb); have n1_ := Aside0.mk (hbox); have n2_ := Aside0.mk ((by rw [hg]; exact (below_size (bw HB.out)) : w.heap.size ≤ gb483)); have n3_ := Aside0.mk ((by rw [hg]; exact (below_size (bw HB.out)) : w.heap.size ≤ gb483)); clear HB; have HB := n0_; have BK483 := n1_; have GW483 := n2_; have GE483 := n3_; clear n0_ n1_ n2_ n3_; clear hb hbox hg) | ((with_reducible refine gate_dst (N := 3) rfl ?_); refine box_event ?hg (N := 3) ?hd (cs := #[.int .u8 a1_0, .int .i64 a1_1, .string a1_2]) (t := 25) ?hr ?_; (case hd => rfl); (case hg => rfl); (case hr => first | (go_simp; done) | (go_simp; rfl)); intro gb484 hg w6 hbox hb; have n0_ := Aside0.mk (blk_below (bk BK483.out) hb); have n1_ := Aside0.mk (below_step (by repeat (first | (with_reducible first | exact HB.out | apply below_alloc | apply pw_below_drewN | apply below_drew1 | refine below_set ?_ GE483.out) | exact HB.out)) hb); have n2_ := Aside0.mk (hbox); have n3_ := Aside0.mk ((by rw [hg]; exact (below_size (by repeat (first | (with_reducible first | exact HB.out | apply below_alloc | apply pw_below_drewN | apply below_drew1 | refine below_set ?_ GE483.out) | exact HB.out))) : w.heap.size ≤ gb484)); have n4_ := Aside0.mk ((by rw [hg]; exact (below_size (by repeat (first | (with_reducible first | exact HB.out | apply below_alloc | apply pw_below_drewN | apply below_drew1 | refine below_set ?_ GE483.out) | exact HB.out))) : w.heap.size ≤ gb484)); have n5_ := Aside0.mk ((by rw [hg]; exact Nat.ne_of_lt (blk_lt (g := gb483) (o := .cells #[.int .u8 a0_0, .int .i64 a0_1, .string a0_2] 25 (0, 0)) (bk BK483.out)) : gb483 ≠ gb484)); have n6_ := Aside0.mk ((by rw [hg]; exact Nat.ne_of_gt (blk_lt (g := gb483) (o := .cells #[.int .u8 a0_0, .int .i64 a0_1, .string a0_2] 25 (0, 0)) (bk BK483.out)) : gb484 ≠ gb483)); clear BK483; clear HB; have BK483 := n0_; have HB := n1_; have BK484 := n2_; have GW484 := n3_; have GE484 := n4_; have NB483_484 := n5_; have NB484_483 := n6_; clear n0_ n1_ n2_ n3_ n4_ n5_ n6_; clear hb hbox hg) | ((with_reducible refine gate_dst (N := 4) rfl ?_); refine box_event ?hg (N := 4) ?hd (cs := #[.int .u8 0, .int .i64 0, .string (⟨#[]⟩ : ByteArray)]) (t := 25) ?hr ?_; (case hd => rfl); (case hg => rfl); (case hr => first | (go_simp; done) | (go_simp; rfl)); intro gb485 hg w7 hbox hb; have n0_ := Aside0.mk (blk_below (bk BK483.out) hb); have n1_ := Aside0.mk (blk_below (bk BK484.out) hb); have n2_ := Aside0.mk (below_step (by repeat (first | (with_reducible first | exact HB.out | apply below_alloc | apply pw_below_drewN | apply below_drew1 | refine below_set ?_ (Aside0.out (by assumption))) | exact HB.out)) hb); have n3_ := Aside0.mk (hbox); have n4_ := Aside0.mk ((by rw [hg]; exact (below_size (by repeat (first | (with_reducible first | exact HB.out | apply below_alloc | apply pw_below_drewN | apply below_drew1 | refine below_set ?_ (Aside0.out (by assumption))) | exact HB.out))) : w.heap.size ≤ gb485)); have n5_ := Aside0.mk ((by rw [hg]; exact (below_size (by repeat (first | (with_reducible first | exact HB.out | apply below_alloc | apply pw_below_drewN | apply below_drew1 | refine below_set ?_ (Aside0.out (by assumption))) | exact HB.out))) : w.heap.size ≤ gb485)); have n6_ := Aside0.mk ((by rw [hg]; exact Nat.ne_of_lt (blk_lt (g := gb483) (o := .cells #[.int .u8 a0_0, .int .i64 a0_1, .string a0_2] 25 (0, 0)) (bk BK483.out)) : gb483 ≠ gb485)); have n7_ := Aside0.mk ((by rw [hg]; exact Nat.ne_of_gt (blk_lt (g := gb483) (o := .cells #[.int .u8 a0_0, .int .i64 a0_1, .string a0_2] 25 (0, 0)) (bk BK483.out)) : gb485 ≠ gb483)); have n8_ := Aside0.mk ((by rw [hg]; exact Nat.ne_of_lt (blk_lt (g := gb484) (o := .cells #[.int .u8 a1_0, .int .i64 a1_1, .string a1_2] 25 (0, 0)) (bk BK484.out)) : gb484 ≠ gb485)); have n9_ := Aside0.mk ((by rw [hg]; exact Nat.ne_of_gt (blk_lt (g := gb484) (o := .cells #[.int .u8 a1_0, .int .i64 a1_1, .string a1_2] 25 (0, 0)) (bk BK484.out)) : gb485 ≠ gb484)); clear BK483; clear BK484; clear HB; have BK483 := n0_; have BK484 := n1_; have HB := n2_; have BK485 := n3_; have GW485 := n4_; have GE485 := n5_; have NB483_485 := n6_; have NB485_483 := n7_; have NB484_485 := n8_; have NB485_484 := n9_; clear n0_ n1_ n2_ n3_ n4_ n5_ n6_ n7_ n8_ n9_; clear hb hbox hg; have hnb8 := NB483_484.out; have hnc8 := NB484_483.out; have hnb9 := NB483_485.out; have hnc9 := NB485_483.out; have hcz10_0 : w7.cell? ⟨gb483, 0, none⟩ = some (.int .u8 a0_0) := (blk_cell BK483.out 0).trans rfl; have hcz10_1 : w7.cell? ⟨gb483, 1, none⟩ = some (.int .i64 a0_1) := (blk_cell BK483.out 1).trans rfl; have hcz10_2 : w7.cell? ⟨gb483, 2, none⟩ = some (.string a0_2) := (blk_cell BK483.out 2).trans rfl; have hfz10_0 := blk_frozen BK483.out 0; have hfz10_1 := blk_frozen BK483.out 1; have hfz10_2 := blk_frozen BK483.out 2; have hnb11 := NB484_485.out; have hnc11 := NB485_484.out; have hcz12_0 : w7.cell? ⟨gb484, 0, none⟩ = some (.int .u8 a1_0) := (blk_cell BK484.out 0).trans rfl; have hcz12_1 : w7.cell? ⟨gb484, 1, none⟩ = some (.int .i64 a1_1) := (blk_cell BK484.out 1).trans rfl; have hcz12_2 : w7.cell? ⟨gb484, 2, none⟩ = some (.string a1_2) := (blk_cell BK484.out 2).trans rfl; have hfz12_0 := blk_frozen BK484.out 0; have hfz12_1 := blk_frozen BK484.out 1; have hfz12_2 := blk_frozen BK484.out 2) | ((with_reducible refine gate_callee (f := 64) rfl ?_); refine goesL_ (some 14) rfl rfl Tryd.func64 (by kernel_rfl) rfl #[.agg #[.int .u8 a0_0, .int .i64 a0_1, .string a0_2], .agg #[.int .u8 a1_0, .int .i64 a1_1, .string a1_2]] rfl (by (try simp only [List.map_toArray, List.map_cons, List.map_nil]); first | done | rfl | (simp only [List.length_drop, List.length_take]; rfl)) ?_; (with_reducible refine (rf17_asked.calls k a0_0 a0_1 a0_2 a1_0 a1_1 a1_2 t486 t487 _ A3.out).mono ?_); rintro e w13 ⟨rfl, hb⟩; refine ⟨_, rfl, ?_⟩; have n0_ := Aside0.mk (blk_below (bk BK483.out) hb); have n1_ := Aside0.mk (blk_below (bk BK484.out) hb); have n2_ := Aside0.mk (blk_below (bk BK485.out) hb); have n3_ := Aside0.mk (below_step (by repeat (first | (with_reducible first | exact HB.out | apply below_alloc | apply pw_below_drewN | apply below_drew1 | refine below_set ?_ (Aside0.out (by assumption))) | exact HB.out)) hb); clear BK483; clear BK484; clear BK485; clear HB; have BK483 := n0_; have BK484 := n1_; have BK485 := n2_; have HB := n3_; clear n0_ n1_ n2_ n3_; (try clear hb); (try clear hb2); (try clear hk); (try clear hi)))
 (try simp only [Act.put, List.setIfInBounds_toArray, List.set_cons_zero, List.set_cons_succ])
 go_cut [21] (fun v21 wc => ∃ (kq : Nat) (x21_3 : Bool), v21 = .bool x21_3 ∧ Aside0 (rf17_Mul.j0 kq t487 x21_3 a0_0 a0_1 a0_2 a1_0 a1_1 a1_2 = some (r1, r2, r3, r4)) ∧ Aside0 (kq ≤ k) ∧ Aside0 (wc.heap[gb483]? = some (.cells #[.int .u8 a0_0, .int .i64 a0_1, .string a0_2] 25 (0, 0))) ∧ Aside0 (wc.heap[gb484]? = some (.cells #[.int .u8 a1_0, .int .i64 a1_1, .string a1_2] 25 (0, 0))) ∧ Aside0 (wc.heap[gb485]? = some (.cells #[.int .u8 0, .int .i64 0, .string (⟨#[]⟩ : ByteArray)] 25 (0, 0))) ∧ Aside0 (Below w.heap.size w wc))
 case first =>
  have H := HC4.out
  clear HC4
  by_cases c14 : t487 = 0
  ·rw [if_pos c14] at H
   have c14b0 : (t487 == 0) = true := beq_iff_eq.mpr c14
   have c14b1 : (t487 != 0) = false := bne_eq_false_iff_eq.mpr c14
   clear c14
   (first | rw [c14b0] | (simp only [i64_w, i32_w]; rw [c14b0]) | skip)
   have H' := Aside0.mk H
   clear H
   go_wp2
   go_meet
   case rel => exact ⟨_, (t486), (by first | rfl | (simp; done) | (simp [*]; done)), H', ⟨by first | omega | exact Nat.le_refl _⟩, ⟨bk BK483.out⟩, ⟨bk BK484.out⟩, ⟨bk BK485.out⟩, ⟨by repeat (first | (with_reducible first | exact HB.out | apply below_alloc | apply pw_below_drewN | apply below_drew1 | refine below_set ?_ (Aside0.out (by assumption))) | exact HB.out)⟩⟩
  ·rw [if_neg c14] at H
   have c14b0 : (t487 == 0) = false := beq_eq_false_iff_ne.mpr c14
   have c14b1 : (t487 != 0) = true := bne_iff_ne.mpr c14
   (first | rw [c14b0] | (simp only [i64_w, i32_w]; rw [c14b0]) | skip)
   have H' := Aside0.mk H
   clear H
   go_wp2
   go_meet
   case rel => exact ⟨_, (true), (by first | rfl | (simp; done) | (simp [*]; done)), H', ⟨by first | omega | exact Nat.le_refl _⟩, ⟨bk BK483.out⟩, ⟨bk BK484.out⟩, ⟨bk BK485.out⟩, ⟨by repeat (first | (with_reducible first | exact HB.out | apply below_alloc | apply pw_below_drewN | apply below_drew1 | refine below_set ?_ (Aside0.out (by assumption))) | exact HB.out)⟩⟩
 case rest =>
  clear HC4
  try clear c1
  try clear c2
  try clear p2
  try clear c6
  try clear c8
  try clear c9
  try clear c11
  try clear c14
  try clear c14b0
  try clear c14b1
  try clear hcz10_0
  try clear hcz10_1
  try clear hcz10_2
  try clear hcz12_0
  try clear hcz12_1
  try clear hcz12_2
  try clear hfz10_0
  try clear hfz10_1
  try clear hfz10_2
  try clear hfz12_0
  try clear hfz12_1
  try clear hfz12_2
  obtain ⟨kq, x21_3, rfl, HA, HJ3, BK483, BK484, BK485, HB⟩ := hcut
  cases kq with
  | zero => exact absurd HA.out (by simp [rf17_Mul.j0])
  | succ kj3 =>
   have H := HA.out
   clear HA
   simp only [rf17_Mul.j0] at H
   by_cases c15 : x21_3 = true
   ·subst c15
    have H1 : (some (0, 0, (⟨#[]⟩ : ByteArray), t487)) = some (r1, r2, r3, r4) := by rw [if_pos rfl] at H; exact H
    clear H
    have H := H1
    clear H1
    simp only [Option.some.injEq, Prod.mk.injEq] at H
    obtain ⟨rfl, rfl, rfl, rfl⟩ := H
    have hnb16 := NB485_483.out
    have hnc16 := NB483_485.out
    have hnb17 := NB485_484.out
    have hnc17 := NB484_485.out
    have hcz18_0 : wc.cell? ⟨gb485, 0, none⟩ = some (.int .u8 0) := (blk_cell BK485.out 0).trans rfl
    have hcz18_1 : wc.cell? ⟨gb485, 1, none⟩ = some (.int .i64 0) := (blk_cell BK485.out 1).trans rfl
    have hcz18_2 : wc.cell? ⟨gb485, 2, none⟩ = some (.string (⟨#[]⟩ : ByteArray)) := (blk_cell BK485.out 2).trans rfl
    have hfz18_0 := blk_frozen BK485.out 0
    have hfz18_1 := blk_frozen BK485.out 1
    have hfz18_2 := blk_frozen BK485.out 2
    go_wp2
    refine bodyPost_ret (results_ct rfl _ _ gb485 25 #[.int .u8 0, .int .i64 0, .string (⟨#[]⟩ : ByteArray)] (0, 0) _ rfl (by (with_reducible repeat first | apply blk_drewN | apply blk_drew | apply blk_alloc); refine blk_put (cs := #[.int .u8 0, .int .i64 0, .string (⟨#[]⟩ : ByteArray)]) ?_ 2 _ rfl; (with_reducible repeat first | apply blk_drewN | apply blk_drew | apply blk_alloc); refine blk_put (cs := #[.int .u8 0, .int .i64 0, .string (⟨#[]⟩ : ByteArray)]) ?_ 1 _ rfl; (with_reducible repeat first | apply blk_drewN | apply blk_drew | apply blk_alloc); refine blk_put (cs := #[.int .u8 0, .int .i64 0, .string (⟨#[]⟩ : ByteArray)]) ?_ 0 _ rfl; (with_reducible repeat first | apply blk_drewN | apply blk_drew | apply blk_alloc); exact BK485.out) Tryd.underlying25 rfl (by kernel_rfl)) rfl ?_
    exact ⟨by first | rfl | (simp [errW_none, errW_some] <;> rfl) | (simp [*, errW_none, errW_some] <;> rfl), by repeat (first | (with_reducible first | exact HB.out | apply below_alloc | apply pw_below_drewN | apply below_drew1 | refine below_set ?_ (Aside0.out (by assumption))) | exact HB.out)⟩
   ·replace c15 := Bool.eq_false_iff.mpr c15
    subst c15
    have H1 : ((rf17_big.f a0_1).bind fun bt488 => ((rf17_big.f a1_1).bind fun bt494 => ((rf17_times.f bt488.1 bt488.2.1 bt488.2.2.1 bt488.2.2.2.1 bt488.2.2.2.2.1 bt488.2.2.2.2.2 bt494.1 bt494.2.1 bt494.2.2.1 bt494.2.2.2.1 bt494.2.2.2.2.1 bt494.2.2.2.2.2).bind fun bt500 => (if a0_0 = a1_0 then (if a0_0 = 2 then ((rf17_answer.f 2 bt500.1 bt500.2.1 bt500.2.2.1 bt500.2.2.2.1 bt500.2.2.2.2.1 bt500.2.2.2.2.2).bind fun bt511 => (some (bt511.1, bt511.2.1, bt511.2.2.1, bt511.2.2.2))) else ((rf17_less.f bt500.2.1 bt500.2.2.1 bt500.2.2.2.1 bt500.2.2.2.2.1 bt500.2.2.2.2.2).bind fun bt515 => (if bt515.2.2.2.2.2 > 5000 then (rf17_Mul.j1 kj3 true bt500.1 bt500.2.1 bt500.2.2.1 bt500.2.2.2.1 bt500.2.2.2.2.1 bt500.2.2.2.2.2 bt515.1 bt515.2.1 bt515.2.2.1 bt515.2.2.2.1 bt515.2.2.2.2.1) else (if bt515.2.2.2.2.2 = 5000 then (rf17_Mul.j1 kj3 ((Int.tmod bt515.1 2) == 1) bt500.1 bt500.2.1 bt500.2.2.1 bt500.2.2.2.1 bt500.2.2.2.2.1 bt500.2.2.2.2.2 bt515.1 bt515.2.1 bt515.2.2.1 bt515.2.2.2.1 bt515.2.2.2.2.1) else (rf17_Mul.j1 kj3 false bt500.1 bt500.2.1 bt500.2.2.1 bt500.2.2.2.1 bt500.2.2.2.2.1 bt500.2.2.2.2.2 bt515.1 bt515.2.1 bt515.2.2.1 bt515.2.2.2.1 bt515.2.2.2.2.1))))) else ((rf17_answer.f 3 bt500.1 bt500.2.1 bt500.2.2.1 bt500.2.2.2.1 bt500.2.2.2.2.1 bt500.2.2.2.2.2).bind fun bt507 => (some (bt507.1, bt507.2.1, bt507.2.2.1, bt507.2.2.2))))))) = some (r1, r2, r3, r4) := by rw [if_neg (show ¬ (false = true) by decide)] at H; exact H
    clear H
    have H := H1
    clear H1
    replace H := Option.bind_eq_some_iff.mp H
    obtain ⟨⟨t488, t489, t490, t491, t492, t493⟩, A190, H⟩ := H
    replace H : ((rf17_big.f a1_1).bind fun bt494 => ((rf17_times.f t488 t489 t490 t491 t492 t493 bt494.1 bt494.2.1 bt494.2.2.1 bt494.2.2.2.1 bt494.2.2.2.2.1 bt494.2.2.2.2.2).bind fun bt500 => (if a0_0 = a1_0 then (if a0_0 = 2 then ((rf17_answer.f 2 bt500.1 bt500.2.1 bt500.2.2.1 bt500.2.2.2.1 bt500.2.2.2.2.1 bt500.2.2.2.2.2).bind fun bt511 => (some (bt511.1, bt511.2.1, bt511.2.2.1, bt511.2.2.2))) else ((rf17_less.f bt500.2.1 bt500.2.2.1 bt500.2.2.2.1 bt500.2.2.2.2.1 bt500.2.2.2.2.2).bind fun bt515 => (if bt515.2.2.2.2.2 > 5000 then (rf17_Mul.j1 kj3 true bt500.1 bt500.2.1 bt500.2.2.1 bt500.2.2.2.1 bt500.2.2.2.2.1 bt500.2.2.2.2.2 bt515.1 bt515.2.1 bt515.2.2.1 bt515.2.2.2.1 bt515.2.2.2.2.1) else (if bt515.2.2.2.2.2 = 5000 then (rf17_Mul.j1 kj3 ((Int.tmod bt515.1 2) == 1) bt500.1 bt500.2.1 bt500.2.2.1 bt500.2.2.2.1 bt500.2.2.2.2.1 bt500.2.2.2.2.2 bt515.1 bt515.2.1 bt515.2.2.1 bt515.2.2.2.1 bt515.2.2.2.2.1) else (rf17_Mul.j1 kj3 false bt500.1 bt500.2.1 bt500.2.2.1 bt500.2.2.2.1 bt500.2.2.2.2.1 bt500.2.2.2.2.2 bt515.1 bt515.2.1 bt515.2.2.1 bt515.2.2.2.1 bt515.2.2.2.2.1))))) else ((rf17_answer.f 3 bt500.1 bt500.2.1 bt500.2.2.1 bt500.2.2.2.1 bt500.2.2.2.2.1 bt500.2.2.2.2.2).bind fun bt507 => (some (bt507.1, bt507.2.1, bt507.2.2.1, bt507.2.2.2)))))) = some (r1, r2, r3, r4) := H
    have A19 := Aside0.mk A190
    clear A190
    replace H := Option.bind_eq_some_iff.mp H
    obtain ⟨⟨t494, t495, t496, t497, t498, t499⟩, A200, H⟩ := H
    replace H : ((rf17_times.f t488 t489 t490 t491 t492 t493 t494 t495 t496 t497 t498 t499).bind fun bt500 => (if a0_0 = a1_0 then (if a0_0 = 2 then ((rf17_answer.f 2 bt500.1 bt500.2.1 bt500.2.2.1 bt500.2.2.2.1 bt500.2.2.2.2.1 bt500.2.2.2.2.2).bind fun bt511 => (some (bt511.1, bt511.2.1, bt511.2.2.1, bt511.2.2.2))) else ((rf17_less.f bt500.2.1 bt500.2.2.1 bt500.2.2.2.1 bt500.2.2.2.2.1 bt500.2.2.2.2.2).bind fun bt515 => (if bt515.2.2.2.2.2 > 5000 then (rf17_Mul.j1 kj3 true bt500.1 bt500.2.1 bt500.2.2.1 bt500.2.2.2.1 bt500.2.2.2.2.1 bt500.2.2.2.2.2 bt515.1 bt515.2.1 bt515.2.2.1 bt515.2.2.2.1 bt515.2.2.2.2.1) else (if bt515.2.2.2.2.2 = 5000 then (rf17_Mul.j1 kj3 ((Int.tmod bt515.1 2) == 1) bt500.1 bt500.2.1 bt500.2.2.1 bt500.2.2.2.1 bt500.2.2.2.2.1 bt500.2.2.2.2.2 bt515.1 bt515.2.1 bt515.2.2.1 bt515.2.2.2.1 bt515.2.2.2.2.1) else (rf17_Mul.j1 kj3 false bt500.1 bt500.2.1 bt500.2.2.1 bt500.2.2.2.1 bt500.2.2.2.2.1 bt500.2.2.2.2.2 bt515.1 bt515.2.1 bt515.2.2.1 bt515.2.2.2.1 bt515.2.2.2.2.1))))) else ((rf17_answer.f 3 bt500.1 bt500.2.1 bt500.2.2.1 bt500.2.2.2.1 bt500.2.2.2.2.1 bt500.2.2.2.2.2).bind fun bt507 => (some (bt507.1, bt507.2.1, bt507.2.2.1, bt507.2.2.2))))) = some (r1, r2, r3, r4) := H
    have A20 := Aside0.mk A200
    clear A200
    replace H := Option.bind_eq_some_iff.mp H
    obtain ⟨⟨t500, t501, t502, t503, t504, t505⟩, A210, H⟩ := H
    replace H : (if a0_0 = a1_0 then (if a0_0 = 2 then ((rf17_answer.f 2 t500 t501 t502 t503 t504 t505).bind fun bt511 => (some (bt511.1, bt511.2.1, bt511.2.2.1, bt511.2.2.2))) else ((rf17_less.f t501 t502 t503 t504 t505).bind fun bt515 => (if bt515.2.2.2.2.2 > 5000 then (rf17_Mul.j1 kj3 true t500 t501 t502 t503 t504 t505 bt515.1 bt515.2.1 bt515.2.2.1 bt515.2.2.2.1 bt515.2.2.2.2.1) else (if bt515.2.2.2.2.2 = 5000 then (rf17_Mul.j1 kj3 ((Int.tmod bt515.1 2) == 1) t500 t501 t502 t503 t504 t505 bt515.1 bt515.2.1 bt515.2.2.1 bt515.2.2.2.1 bt515.2.2.2.2.1) else (rf17_Mul.j1 kj3 false t500 t501 t502 t503 t504 t505 bt515.1 bt515.2.1 bt515.2.2.1 bt515.2.2.2.1 bt515.2.2.2.2.1))))) else ((rf17_answer.f 3 t500 t501 t502 t503 t504 t505).bind fun bt507 => (some (bt507.1, bt507.2.1, bt507.2.2.1, bt507.2.2.2)))) = some (r1, r2, r3, r4) := H
    have A21 := Aside0.mk A210
    clear A210
    by_cases c22 : a0_0 = a1_0
    ·rw [if_pos c22] at H
     have c22b0 : (a0_0 == a1_0) = true := beq_iff_eq.mpr c22
     have c22b1 : (a0_0 != a1_0) = false := bne_eq_false_iff_eq.mpr c22
     clear c22
     by_cases c23 : a0_0 = 2
     ·rw [if_pos c23] at H
      have c23b0 : (a0_0 == 2) = true := beq_iff_eq.mpr c23
      have c23b1 : (a0_0 != 2) = false := bne_eq_false_iff_eq.mpr c23
      clear c23
      replace H := Option.bind_eq_some_iff.mp H
      obtain ⟨⟨t511, t512, t513, t514⟩, A240, H⟩ := H
      replace H : (some (t511, t512, t513, t514)) = some (r1, r2, r3, r4) := H
      have A24 := Aside0.mk A240
      clear A240
      simp only [Option.some.injEq, Prod.mk.injEq] at H
      obtain ⟨rfl, rfl, rfl, rfl⟩ := H
      try go_wp2
      have n0_ := Aside0.mk (blk_drew BK483.out)
      have n1_ := Aside0.mk (blk_drew BK484.out)
      have n2_ := Aside0.mk (blk_drew BK485.out)
      have n3_ := Aside0.mk (below_drew1 HB.out)
      clear BK483
      clear BK484
      clear BK485
      clear HB
      have BK483 := n0_
      have BK484 := n1_
      have BK485 := n2_
      have HB := n3_
      clear n0_ n1_ n2_ n3_
      refine start_ (n := 9) (S := fun w' => w'.cell? ⟨gb483, 0, none⟩ = some (.int .u8 a0_0) ∧ w'.cell? ⟨gb483, 1, none⟩ = some (.int .i64 a0_1) ∧ w'.cell? ⟨gb483, 2, none⟩ = some (.string a0_2) ∧ w'.cell? ⟨gb484, 0, none⟩ = some (.int .u8 a1_0) ∧ w'.cell? ⟨gb484, 1, none⟩ = some (.int .i64 a1_1) ∧ w'.cell? ⟨gb484, 2, none⟩ = some (.string a1_2)) (ds := []) #[false, false, false, false, false, false, false, false, false] (by kernel_rfl) rfl rfl ⟨(blk_cell BK483.out 0).trans rfl, (blk_cell BK483.out 1).trans rfl, (blk_cell BK483.out 2).trans rfl, (blk_cell BK484.out 0).trans rfl, (blk_cell BK484.out 1).trans rfl, (blk_cell BK484.out 2).trans rfl⟩ (fun hHeld => ?_); refine with_tabW rf17_Mul.tab4 rf17_Mul.bits4 (fun HT_ HW_ => ?_)
      generalize wc.drew = w25 at BK483 BK484 BK485 HB hHeld ⊢
      refine pure_ (i := 0) (N := some 24) (v := ?_) (a' := ?_) #[true, false, false, false, false, false, false, false, false] rfl rfl (any_of HT_.out (by kernel_rfl)) (fun _ _ _ h => h) (Or.inl ⟨by rfl, ?_⟩) ?_ ?_
      rotate_left
      ·intro w'
       go_simp
       with_reducible rfl
      rotate_left
      ·simp only [Act.put, List.setIfInBounds_toArray, List.set_cons_zero, List.set_cons_succ, i64_w, i32_w]
       rfl
      refine pure_ (i := 3) (N := some 27) (v := ?_) (a' := ?_) #[true, false, false, true, false, false, false, false, false] rfl rfl (any_of HT_.out (by kernel_rfl)) (fun _ _ _ h => h) (Or.inl ⟨by rfl, ?_⟩) ?_ ?_
      rotate_left
      ·intro w'
       go_simp
       with_reducible rfl
      rotate_left
      ·simp only [Act.put, List.setIfInBounds_toArray, List.set_cons_zero, List.set_cons_succ, i64_w, i32_w]
       rfl
      refine take_ (i := 1) (N := some 25) (v := ?_) (a' := ?_) #[true, true, false, true, false, false, false, false, false] rfl rfl (take_ofW HT_.out HW_.out (by kernel_rfl)) (fun _ _ _ h => h) (Or.inl ⟨by rfl, ?_⟩) hHeld ?_ ?_
      rotate_left
      ·rintro w' ⟨s0, s1, s2, s3, s4, s5⟩
       go_simp
       with_reducible rfl
      rotate_left
      ·simp only [Act.put, List.setIfInBounds_toArray, List.set_cons_zero, List.set_cons_succ, i64_w, i32_w]
       rfl
      refine take_ (i := 4) (N := some 28) (v := ?_) (a' := ?_) #[true, true, false, true, true, false, false, false, false] rfl rfl (take_ofW HT_.out HW_.out (by kernel_rfl)) (fun _ _ _ h => h) (Or.inl ⟨by rfl, ?_⟩) hHeld ?_ ?_
      rotate_left
      ·rintro w' ⟨s0, s1, s2, s3, s4, s5⟩
       go_simp
       with_reducible rfl
      rotate_left
      ·simp only [Act.put, List.setIfInBounds_toArray, List.set_cons_zero, List.set_cons_succ, i64_w, i32_w]
       rfl
      refine join_ (σ := Nat) 1 #[true, true, true, true, true, true, true, true, false] (fun s_ => [(26, .agg #[.bool t488, .int .u64 t489, .int .u64 t490, .int .u64 t491, .int .u64 t492, .int .u64 t493]), (29, .agg #[.bool t494, .int .u64 t495, .int .u64 t496, .int .u64 t497, .int .u64 t498, .int .u64 t499]), (30, .agg #[.bool t500, .int .u64 t501, .int .u64 t502, .int .u64 t503, .int .u64 t504, .int .u64 t505]), (8, .pointer (some ⟨s_, 0, none⟩))]) (fun s_ w' => (w'.cell? ⟨gb483, 0, none⟩ = some (.int .u8 a0_0) ∧ w'.cell? ⟨gb483, 1, none⟩ = some (.int .i64 a0_1) ∧ w'.cell? ⟨gb483, 2, none⟩ = some (.string a0_2) ∧ w'.cell? ⟨gb484, 0, none⟩ = some (.int .u8 a1_0) ∧ w'.cell? ⟨gb484, 1, none⟩ = some (.int .i64 a1_1) ∧ w'.cell? ⟨gb484, 2, none⟩ = some (.string a1_2)) ∧ (w'.heap[gb483]? = some (.cells #[.int .u8 a0_0, .int .i64 a0_1, .string a0_2] 25 (0, 0))) ∧ (w'.heap[gb484]? = some (.cells #[.int .u8 a1_0, .int .i64 a1_1, .string a1_2] 25 (0, 0))) ∧ (w'.heap[gb485]? = some (.cells #[.int .u8 0, .int .i64 0, .string (⟨#[]⟩ : ByteArray)] 25 (0, 0))) ∧ (w'.heap[s_]? = some (.cells #[.bool false, .int .u64 0, .int .u64 0, .int .u64 0, .int .u64 0, .int .u64 0] 56 (0, 0))) ∧ (w.heap.size ≤ s_) ∧ (w.heap.size ≤ s_) ∧ (gb483 ≠ s_) ∧ (s_ ≠ gb483) ∧ (gb484 ≠ s_) ∧ (s_ ≠ gb484) ∧ (gb485 ≠ s_) ∧ (s_ ≠ gb485) ∧ (Below w.heap.size w w')) ?_ ?_
      rotate_left
      ·intro hCont
       refine two_ (i := 2) (j := 7) (Ni := some 26) (Nj := some 8) #[true, true, true, true, true, false, false, false, false] #[true, true, false, true, true, false, false, true, false] rfl rfl rfl rfl (two_of HT_.out (by kernel_rfl)) (by decide) (by decide) (fun K hK => ?_) (fun K hK => ?_)
       ·skip
        refine goes_ Tryd.func66 (by kernel_rfl) rfl #[.int .i64 a0_1] (by rfl) rfl rfl (by (try simp only [List.map_toArray, List.map_cons, List.map_nil]); first | done | rfl | (simp only [List.length_drop, List.length_take]; rfl)) ?_
        with_reducible refine (rf17_big.calls a0_1 t488 t489 t490 t491 t492 t493 _ A19.out).mono ?_
        rintro e w26 ⟨rfl, hb⟩
        refine ⟨_, rfl, ?_⟩
        have n0_ := Aside0.mk (blk_below (bk BK483.out) hb)
        have n1_ := Aside0.mk (blk_below (bk BK484.out) hb)
        have n2_ := Aside0.mk (blk_below (bk BK485.out) hb)
        have n3_ := Aside0.mk (below_step (by repeat (first | (with_reducible first | exact HB.out | apply below_alloc | apply pw_below_drewN | apply below_drew1 | refine below_set ?_ (Aside0.out (by assumption))) | exact HB.out)) hb)
        clear BK483
        clear BK484
        clear BK485
        clear HB
        have BK483 := n0_
        have BK484 := n1_
        have BK485 := n2_
        have HB := n3_
        clear n0_ n1_ n2_ n3_
        (try clear hb)
        (try clear hb2)
        (try clear hk)
        (try clear hi)
        refine hK.out _ _ ⟨(blk_cell BK483.out 0).trans rfl, (blk_cell BK483.out 1).trans rfl, (blk_cell BK483.out 2).trans rfl, (blk_cell BK484.out 0).trans rfl, (blk_cell BK484.out 1).trans rfl, (blk_cell BK484.out 2).trans rfl⟩ (fun hHeld => ?_)
        clear hK K
        refine norm_ (a' := ?_) ?_ ?_
        rotate_left
        ·show Act.put _ (some 26) _ = _
         simp only [Act.put, List.setIfInBounds_toArray, List.set_cons_zero, List.set_cons_succ, i64_w, i32_w]
         rfl
        refine two_ (i := 5) (j := 7) (Ni := some 29) (Nj := some 8) #[true, true, true, true, true, true, false, false, false] #[true, true, true, true, true, false, false, true, false] rfl rfl rfl rfl (two_of HT_.out (by kernel_rfl)) (by decide) (by decide) (fun K hK => ?_) (fun K hK => ?_)
        ·skip
         refine goes_ Tryd.func66 (by kernel_rfl) rfl #[.int .i64 a1_1] (by rfl) rfl rfl (by (try simp only [List.map_toArray, List.map_cons, List.map_nil]); first | done | rfl | (simp only [List.length_drop, List.length_take]; rfl)) ?_
         with_reducible refine (rf17_big.calls a1_1 t494 t495 t496 t497 t498 t499 _ A20.out).mono ?_
         rintro e w27 ⟨rfl, hb⟩
         refine ⟨_, rfl, ?_⟩
         have n0_ := Aside0.mk (blk_below (bk BK483.out) hb)
         have n1_ := Aside0.mk (blk_below (bk BK484.out) hb)
         have n2_ := Aside0.mk (blk_below (bk BK485.out) hb)
         have n3_ := Aside0.mk (below_step (by repeat (first | (with_reducible first | exact HB.out | apply below_alloc | apply pw_below_drewN | apply below_drew1 | refine below_set ?_ (Aside0.out (by assumption))) | exact HB.out)) hb)
         clear BK483
         clear BK484
         clear BK485
         clear HB
         have BK483 := n0_
         have BK484 := n1_
         have BK485 := n2_
         have HB := n3_
         clear n0_ n1_ n2_ n3_
         (try clear hb)
         (try clear hb2)
         (try clear hk)
         (try clear hi)
         refine hK.out _ _ ⟨(blk_cell BK483.out 0).trans rfl, (blk_cell BK483.out 1).trans rfl, (blk_cell BK483.out 2).trans rfl, (blk_cell BK484.out 0).trans rfl, (blk_cell BK484.out 1).trans rfl, (blk_cell BK484.out 2).trans rfl⟩ (fun hHeld => ?_)
         clear hK K
         refine norm_ (a' := ?_) ?_ ?_
         rotate_left
         ·show Act.put _ (some 29) _ = _
          simp only [Act.put, List.setIfInBounds_toArray, List.set_cons_zero, List.set_cons_succ, i64_w, i32_w]
          rfl
         refine two_ (i := 6) (j := 7) (Ni := some 30) (Nj := some 8) #[true, true, true, true, true, true, true, false, false] #[true, true, true, true, true, true, false, true, false] rfl rfl rfl rfl (two_of HT_.out (by kernel_rfl)) (by decide) (by decide) (fun K hK => ?_) (fun K hK => ?_)
         ·skip
          refine goes_ Tryd.func67 (by kernel_rfl) rfl #[.agg #[.bool t488, .int .u64 t489, .int .u64 t490, .int .u64 t491, .int .u64 t492, .int .u64 t493], .agg #[.bool t494, .int .u64 t495, .int .u64 t496, .int .u64 t497, .int .u64 t498, .int .u64 t499]] (by rfl) rfl rfl (by (try simp only [List.map_toArray, List.map_cons, List.map_nil]); first | done | rfl | (simp only [List.length_drop, List.length_take]; rfl)) ?_
          with_reducible refine (rf17_times.calls t488 t489 t490 t491 t492 t493 t494 t495 t496 t497 t498 t499 t500 t501 t502 t503 t504 t505 _ A21.out).mono ?_
          rintro e w28 ⟨rfl, hb⟩
          refine ⟨_, rfl, ?_⟩
          have n0_ := Aside0.mk (blk_below (bk BK483.out) hb)
          have n1_ := Aside0.mk (blk_below (bk BK484.out) hb)
          have n2_ := Aside0.mk (blk_below (bk BK485.out) hb)
          have n3_ := Aside0.mk (below_step (by repeat (first | (with_reducible first | exact HB.out | apply below_alloc | apply pw_below_drewN | apply below_drew1 | refine below_set ?_ (Aside0.out (by assumption))) | exact HB.out)) hb)
          clear BK483
          clear BK484
          clear BK485
          clear HB
          have BK483 := n0_
          have BK484 := n1_
          have BK485 := n2_
          have HB := n3_
          clear n0_ n1_ n2_ n3_
          (try clear hb)
          (try clear hb2)
          (try clear hk)
          (try clear hi)
          refine hK.out _ _ ⟨(blk_cell BK483.out 0).trans rfl, (blk_cell BK483.out 1).trans rfl, (blk_cell BK483.out 2).trans rfl, (blk_cell BK484.out 0).trans rfl, (blk_cell BK484.out 1).trans rfl, (blk_cell BK484.out 2).trans rfl⟩ (fun hHeld => ?_)
          clear hK K
          refine norm_ (a' := ?_) ?_ ?_
          rotate_left
          ·show Act.put _ (some 30) _ = _
           simp only [Act.put, List.setIfInBounds_toArray, List.set_cons_zero, List.set_cons_succ, i64_w, i32_w]
           rfl
          refine one_ (i := 7) (N := some 8) #[true, true, true, true, true, true, true, true, false] rfl rfl (one_of HT_.out (by kernel_rfl)) (by decide) (fun K hK => ?_)
          refine box_step ?hg (N := 8) ?hd (cs := #[.bool false, .int .u64 0, .int .u64 0, .int .u64 0, .int .u64 0, .int .u64 0]) (t := 56) ?hr ?_; (case hd => rfl); (case hg => rfl); (case hr => first | (go_simp; done) | (go_simp; rfl))
          intro gb506 hg w29 hbox hb
          have n0_ := Aside0.mk (blk_below (bk BK483.out) hb)
          have n1_ := Aside0.mk (blk_below (bk BK484.out) hb)
          have n2_ := Aside0.mk (blk_below (bk BK485.out) hb)
          have n3_ := Aside0.mk (below_step (by repeat (first | (with_reducible first | exact HB.out | apply below_alloc | apply pw_below_drewN | apply below_drew1 | refine below_set ?_ (Aside0.out (by assumption))) | exact HB.out)) hb)
          have n4_ := Aside0.mk (hbox)
          have n5_ := Aside0.mk ((by rw [hg]; exact (below_size (by repeat (first | (with_reducible first | exact HB.out | apply below_alloc | apply pw_below_drewN | apply below_drew1 | refine below_set ?_ (Aside0.out (by assumption))) | exact HB.out))) : w.heap.size ≤ gb506))
          have n6_ := Aside0.mk ((by rw [hg]; exact (below_size (by repeat (first | (with_reducible first | exact HB.out | apply below_alloc | apply pw_below_drewN | apply below_drew1 | refine below_set ?_ (Aside0.out (by assumption))) | exact HB.out))) : w.heap.size ≤ gb506))
          have n7_ := Aside0.mk ((by rw [hg]; exact Nat.ne_of_lt (blk_lt (g := gb483) (o := .cells #[.int .u8 a0_0, .int .i64 a0_1, .string a0_2] 25 (0, 0)) (bk BK483.out)) : gb483 ≠ gb506))
          have n8_ := Aside0.mk ((by rw [hg]; exact Nat.ne_of_gt (blk_lt (g := gb483) (o := .cells #[.int .u8 a0_0, .int .i64 a0_1, .string a0_2] 25 (0, 0)) (bk BK483.out)) : gb506 ≠ gb483))
          have n9_ := Aside0.mk ((by rw [hg]; exact Nat.ne_of_lt (blk_lt (g := gb484) (o := .cells #[.int .u8 a1_0, .int .i64 a1_1, .string a1_2] 25 (0, 0)) (bk BK484.out)) : gb484 ≠ gb506))
          have n10_ := Aside0.mk ((by rw [hg]; exact Nat.ne_of_gt (blk_lt (g := gb484) (o := .cells #[.int .u8 a1_0, .int .i64 a1_1, .string a1_2] 25 (0, 0)) (bk BK484.out)) : gb506 ≠ gb484))
          have n11_ := Aside0.mk ((by rw [hg]; exact Nat.ne_of_lt (blk_lt (g := gb485) (o := .cells #[.int .u8 0, .int .i64 0, .string (⟨#[]⟩ : ByteArray)] 25 (0, 0)) (bk BK485.out)) : gb485 ≠ gb506))
          have n12_ := Aside0.mk ((by rw [hg]; exact Nat.ne_of_gt (blk_lt (g := gb485) (o := .cells #[.int .u8 0, .int .i64 0, .string (⟨#[]⟩ : ByteArray)] 25 (0, 0)) (bk BK485.out)) : gb506 ≠ gb485))
          clear BK483
          clear BK484
          clear BK485
          clear HB
          have BK483 := n0_
          have BK484 := n1_
          have BK485 := n2_
          have HB := n3_
          have BK506 := n4_
          have GW506 := n5_
          have GE506 := n6_
          have NB483_506 := n7_
          have NB506_483 := n8_
          have NB484_506 := n9_
          have NB506_484 := n10_
          have NB485_506 := n11_
          have NB506_485 := n12_
          clear n0_ n1_ n2_ n3_ n4_ n5_ n6_ n7_ n8_ n9_ n10_ n11_ n12_
          clear hb hbox hg
          refine hK.out _ _ ⟨(blk_cell BK483.out 0).trans rfl, (blk_cell BK483.out 1).trans rfl, (blk_cell BK483.out 2).trans rfl, (blk_cell BK484.out 0).trans rfl, (blk_cell BK484.out 1).trans rfl, (blk_cell BK484.out 2).trans rfl⟩ (fun hHeld => ?_)
          clear hK K
          refine norm_ (a' := ?_) ?_ ?_
          rotate_left
          ·show Act.put _ (some 8) _ = _
           simp only [Act.put, List.setIfInBounds_toArray, List.set_cons_zero, List.set_cons_succ, i64_w, i32_w]
           rfl
          exact norm_ (by simp only [putAll, Act.put, List.setIfInBounds_toArray, List.set_cons_zero, List.set_cons_succ]) (hCont (gb506) _ ⟨hHeld, (bk BK483.out), (bk BK484.out), (bk BK485.out), (bk BK506.out), GW506.out, GE506.out, NB483_506.out, NB506_483.out, NB484_506.out, NB506_484.out, NB485_506.out, NB506_485.out, (by repeat (first | (with_reducible first | exact HB.out | apply below_alloc | apply pw_below_drewN | apply below_drew1 | refine below_set ?_ (Aside0.out (by assumption))) | exact HB.out))⟩)
         ·skip
          refine box_step ?hg (N := 8) ?hd (cs := #[.bool false, .int .u64 0, .int .u64 0, .int .u64 0, .int .u64 0, .int .u64 0]) (t := 56) ?hr ?_; (case hd => rfl); (case hg => rfl); (case hr => first | (go_simp; done) | (go_simp; rfl))
          intro gb506 hg w28 hbox hb
          have n0_ := Aside0.mk (blk_below (bk BK483.out) hb)
          have n1_ := Aside0.mk (blk_below (bk BK484.out) hb)
          have n2_ := Aside0.mk (blk_below (bk BK485.out) hb)
          have n3_ := Aside0.mk (below_step (by repeat (first | (with_reducible first | exact HB.out | apply below_alloc | apply pw_below_drewN | apply below_drew1 | refine below_set ?_ (Aside0.out (by assumption))) | exact HB.out)) hb)
          have n4_ := Aside0.mk (hbox)
          have n5_ := Aside0.mk ((by rw [hg]; exact (below_size (by repeat (first | (with_reducible first | exact HB.out | apply below_alloc | apply pw_below_drewN | apply below_drew1 | refine below_set ?_ (Aside0.out (by assumption))) | exact HB.out))) : w.heap.size ≤ gb506))
          have n6_ := Aside0.mk ((by rw [hg]; exact (below_size (by repeat (first | (with_reducible first | exact HB.out | apply below_alloc | apply pw_below_drewN | apply below_drew1 | refine below_set ?_ (Aside0.out (by assumption))) | exact HB.out))) : w.heap.size ≤ gb506))
          have n7_ := Aside0.mk ((by rw [hg]; exact Nat.ne_of_lt (blk_lt (g := gb483) (o := .cells #[.int .u8 a0_0, .int .i64 a0_1, .string a0_2] 25 (0, 0)) (bk BK483.out)) : gb483 ≠ gb506))
          have n8_ := Aside0.mk ((by rw [hg]; exact Nat.ne_of_gt (blk_lt (g := gb483) (o := .cells #[.int .u8 a0_0, .int .i64 a0_1, .string a0_2] 25 (0, 0)) (bk BK483.out)) : gb506 ≠ gb483))
          have n9_ := Aside0.mk ((by rw [hg]; exact Nat.ne_of_lt (blk_lt (g := gb484) (o := .cells #[.int .u8 a1_0, .int .i64 a1_1, .string a1_2] 25 (0, 0)) (bk BK484.out)) : gb484 ≠ gb506))
          have n10_ := Aside0.mk ((by rw [hg]; exact Nat.ne_of_gt (blk_lt (g := gb484) (o := .cells #[.int .u8 a1_0, .int .i64 a1_1, .string a1_2] 25 (0, 0)) (bk BK484.out)) : gb506 ≠ gb484))
          have n11_ := Aside0.mk ((by rw [hg]; exact Nat.ne_of_lt (blk_lt (g := gb485) (o := .cells #[.int .u8 0, .int .i64 0, .string (⟨#[]⟩ : ByteArray)] 25 (0, 0)) (bk BK485.out)) : gb485 ≠ gb506))
          have n12_ := Aside0.mk ((by rw [hg]; exact Nat.ne_of_gt (blk_lt (g := gb485) (o := .cells #[.int .u8 0, .int .i64 0, .string (⟨#[]⟩ : ByteArray)] 25 (0, 0)) (bk BK485.out)) : gb506 ≠ gb485))
          clear BK483
          clear BK484
          clear BK485
          clear HB
          have BK483 := n0_
          have BK484 := n1_
          have BK485 := n2_
          have HB := n3_
          have BK506 := n4_
          have GW506 := n5_
          have GE506 := n6_
          have NB483_506 := n7_
          have NB506_483 := n8_
          have NB484_506 := n9_
          have NB506_484 := n10_
          have NB485_506 := n11_
          have NB506_485 := n12_
          clear n0_ n1_ n2_ n3_ n4_ n5_ n6_ n7_ n8_ n9_ n10_ n11_ n12_
          clear hb hbox hg
          refine hK.out _ _ ⟨(blk_cell BK483.out 0).trans rfl, (blk_cell BK483.out 1).trans rfl, (blk_cell BK483.out 2).trans rfl, (blk_cell BK484.out 0).trans rfl, (blk_cell BK484.out 1).trans rfl, (blk_cell BK484.out 2).trans rfl⟩ (fun hHeld => ?_)
          clear hK K
          refine norm_ (a' := ?_) ?_ ?_
          rotate_left
          ·show Act.put _ (some 8) _ = _
           simp only [Act.put, List.setIfInBounds_toArray, List.set_cons_zero, List.set_cons_succ, i64_w, i32_w]
           rfl
          refine one_ (i := 6) (N := some 30) #[true, true, true, true, true, true, true, true, false] rfl rfl (one_of HT_.out (by kernel_rfl)) (by decide) (fun K hK => ?_)
          refine goes_ Tryd.func67 (by kernel_rfl) rfl #[.agg #[.bool t488, .int .u64 t489, .int .u64 t490, .int .u64 t491, .int .u64 t492, .int .u64 t493], .agg #[.bool t494, .int .u64 t495, .int .u64 t496, .int .u64 t497, .int .u64 t498, .int .u64 t499]] (by rfl) rfl rfl (by (try simp only [List.map_toArray, List.map_cons, List.map_nil]); first | done | rfl | (simp only [List.length_drop, List.length_take]; rfl)) ?_
          with_reducible refine (rf17_times.calls t488 t489 t490 t491 t492 t493 t494 t495 t496 t497 t498 t499 t500 t501 t502 t503 t504 t505 _ A21.out).mono ?_
          rintro e w29 ⟨rfl, hb⟩
          refine ⟨_, rfl, ?_⟩
          have n0_ := Aside0.mk (blk_below (bk BK483.out) hb)
          have n1_ := Aside0.mk (blk_below (bk BK484.out) hb)
          have n2_ := Aside0.mk (blk_below (bk BK485.out) hb)
          have n3_ := Aside0.mk (blk_below (bk BK506.out) hb)
          have n4_ := Aside0.mk (below_step (by repeat (first | (with_reducible first | exact HB.out | apply below_alloc | apply pw_below_drewN | apply below_drew1 | refine below_set ?_ (Aside0.out (by assumption))) | exact HB.out)) hb)
          clear BK483
          clear BK484
          clear BK485
          clear BK506
          clear HB
          have BK483 := n0_
          have BK484 := n1_
          have BK485 := n2_
          have BK506 := n3_
          have HB := n4_
          clear n0_ n1_ n2_ n3_ n4_
          (try clear hb)
          (try clear hb2)
          (try clear hk)
          (try clear hi)
          refine hK.out _ _ ⟨(blk_cell BK483.out 0).trans rfl, (blk_cell BK483.out 1).trans rfl, (blk_cell BK483.out 2).trans rfl, (blk_cell BK484.out 0).trans rfl, (blk_cell BK484.out 1).trans rfl, (blk_cell BK484.out 2).trans rfl⟩ (fun hHeld => ?_)
          clear hK K
          refine norm_ (a' := ?_) ?_ ?_
          rotate_left
          ·show Act.put _ (some 30) _ = _
           simp only [Act.put, List.setIfInBounds_toArray, List.set_cons_zero, List.set_cons_succ, i64_w, i32_w]
           rfl
          exact norm_ (by simp only [putAll, Act.put, List.setIfInBounds_toArray, List.set_cons_zero, List.set_cons_succ]) (hCont (gb506) _ ⟨hHeld, (bk BK483.out), (bk BK484.out), (bk BK485.out), (bk BK506.out), GW506.out, GE506.out, NB483_506.out, NB506_483.out, NB484_506.out, NB506_484.out, NB485_506.out, NB506_485.out, (by repeat (first | (with_reducible first | exact HB.out | apply below_alloc | apply pw_below_drewN | apply below_drew1 | refine below_set ?_ (Aside0.out (by assumption))) | exact HB.out))⟩)
        ·skip
         refine box_step ?hg (N := 8) ?hd (cs := #[.bool false, .int .u64 0, .int .u64 0, .int .u64 0, .int .u64 0, .int .u64 0]) (t := 56) ?hr ?_; (case hd => rfl); (case hg => rfl); (case hr => first | (go_simp; done) | (go_simp; rfl))
         intro gb506 hg w27 hbox hb
         have n0_ := Aside0.mk (blk_below (bk BK483.out) hb)
         have n1_ := Aside0.mk (blk_below (bk BK484.out) hb)
         have n2_ := Aside0.mk (blk_below (bk BK485.out) hb)
         have n3_ := Aside0.mk (below_step (by repeat (first | (with_reducible first | exact HB.out | apply below_alloc | apply pw_below_drewN | apply below_drew1 | refine below_set ?_ (Aside0.out (by assumption))) | exact HB.out)) hb)
         have n4_ := Aside0.mk (hbox)
         have n5_ := Aside0.mk ((by rw [hg]; exact (below_size (by repeat (first | (with_reducible first | exact HB.out | apply below_alloc | apply pw_below_drewN | apply below_drew1 | refine below_set ?_ (Aside0.out (by assumption))) | exact HB.out))) : w.heap.size ≤ gb506))
         have n6_ := Aside0.mk ((by rw [hg]; exact (below_size (by repeat (first | (with_reducible first | exact HB.out | apply below_alloc | apply pw_below_drewN | apply below_drew1 | refine below_set ?_ (Aside0.out (by assumption))) | exact HB.out))) : w.heap.size ≤ gb506))
         have n7_ := Aside0.mk ((by rw [hg]; exact Nat.ne_of_lt (blk_lt (g := gb483) (o := .cells #[.int .u8 a0_0, .int .i64 a0_1, .string a0_2] 25 (0, 0)) (bk BK483.out)) : gb483 ≠ gb506))
         have n8_ := Aside0.mk ((by rw [hg]; exact Nat.ne_of_gt (blk_lt (g := gb483) (o := .cells #[.int .u8 a0_0, .int .i64 a0_1, .string a0_2] 25 (0, 0)) (bk BK483.out)) : gb506 ≠ gb483))
         have n9_ := Aside0.mk ((by rw [hg]; exact Nat.ne_of_lt (blk_lt (g := gb484) (o := .cells #[.int .u8 a1_0, .int .i64 a1_1, .string a1_2] 25 (0, 0)) (bk BK484.out)) : gb484 ≠ gb506))
         have n10_ := Aside0.mk ((by rw [hg]; exact Nat.ne_of_gt (blk_lt (g := gb484) (o := .cells #[.int .u8 a1_0, .int .i64 a1_1, .string a1_2] 25 (0, 0)) (bk BK484.out)) : gb506 ≠ gb484))
         have n11_ := Aside0.mk ((by rw [hg]; exact Nat.ne_of_lt (blk_lt (g := gb485) (o := .cells #[.int .u8 0, .int .i64 0, .string (⟨#[]⟩ : ByteArray)] 25 (0, 0)) (bk BK485.out)) : gb485 ≠ gb506))
         have n12_ := Aside0.mk ((by rw [hg]; exact Nat.ne_of_gt (blk_lt (g := gb485) (o := .cells #[.int .u8 0, .int .i64 0, .string (⟨#[]⟩ : ByteArray)] 25 (0, 0)) (bk BK485.out)) : gb506 ≠ gb485))
         clear BK483
         clear BK484
         clear BK485
         clear HB
         have BK483 := n0_
         have BK484 := n1_
         have BK485 := n2_
         have HB := n3_
         have BK506 := n4_
         have GW506 := n5_
         have GE506 := n6_
         have NB483_506 := n7_
         have NB506_483 := n8_
         have NB484_506 := n9_
         have NB506_484 := n10_
         have NB485_506 := n11_
         have NB506_485 := n12_
         clear n0_ n1_ n2_ n3_ n4_ n5_ n6_ n7_ n8_ n9_ n10_ n11_ n12_
         clear hb hbox hg
         refine hK.out _ _ ⟨(blk_cell BK483.out 0).trans rfl, (blk_cell BK483.out 1).trans rfl, (blk_cell BK483.out 2).trans rfl, (blk_cell BK484.out 0).trans rfl, (blk_cell BK484.out 1).trans rfl, (blk_cell BK484.out 2).trans rfl⟩ (fun hHeld => ?_)
         clear hK K
         refine norm_ (a' := ?_) ?_ ?_
         rotate_left
         ·show Act.put _ (some 8) _ = _
          simp only [Act.put, List.setIfInBounds_toArray, List.set_cons_zero, List.set_cons_succ, i64_w, i32_w]
          rfl
         refine one_ (i := 5) (N := some 29) #[true, true, true, true, true, true, false, true, false] rfl rfl (one_of HT_.out (by kernel_rfl)) (by decide) (fun K hK => ?_)
         refine goes_ Tryd.func66 (by kernel_rfl) rfl #[.int .i64 a1_1] (by rfl) rfl rfl (by (try simp only [List.map_toArray, List.map_cons, List.map_nil]); first | done | rfl | (simp only [List.length_drop, List.length_take]; rfl)) ?_
         with_reducible refine (rf17_big.calls a1_1 t494 t495 t496 t497 t498 t499 _ A20.out).mono ?_
         rintro e w28 ⟨rfl, hb⟩
         refine ⟨_, rfl, ?_⟩
         have n0_ := Aside0.mk (blk_below (bk BK483.out) hb)
         have n1_ := Aside0.mk (blk_below (bk BK484.out) hb)
         have n2_ := Aside0.mk (blk_below (bk BK485.out) hb)
         have n3_ := Aside0.mk (blk_below (bk BK506.out) hb)
         have n4_ := Aside0.mk (below_step (by repeat (first | (with_reducible first | exact HB.out | apply below_alloc | apply pw_below_drewN | apply below_drew1 | refine below_set ?_ (Aside0.out (by assumption))) | exact HB.out)) hb)
         clear BK483
         clear BK484
         clear BK485
         clear BK506
         clear HB
         have BK483 := n0_
         have BK484 := n1_
         have BK485 := n2_
         have BK506 := n3_
         have HB := n4_
         clear n0_ n1_ n2_ n3_ n4_
         (try clear hb)
         (try clear hb2)
         (try clear hk)
         (try clear hi)
         refine hK.out _ _ ⟨(blk_cell BK483.out 0).trans rfl, (blk_cell BK483.out 1).trans rfl, (blk_cell BK483.out 2).trans rfl, (blk_cell BK484.out 0).trans rfl, (blk_cell BK484.out 1).trans rfl, (blk_cell BK484.out 2).trans rfl⟩ (fun hHeld => ?_)
         clear hK K
         refine norm_ (a' := ?_) ?_ ?_
         rotate_left
         ·show Act.put _ (some 29) _ = _
          simp only [Act.put, List.setIfInBounds_toArray, List.set_cons_zero, List.set_cons_succ, i64_w, i32_w]
          rfl
         refine one_ (i := 6) (N := some 30) #[true, true, true, true, true, true, true, true, false] rfl rfl (one_of HT_.out (by kernel_rfl)) (by decide) (fun K hK => ?_)
         refine goes_ Tryd.func67 (by kernel_rfl) rfl #[.agg #[.bool t488, .int .u64 t489, .int .u64 t490, .int .u64 t491, .int .u64 t492, .int .u64 t493], .agg #[.bool t494, .int .u64 t495, .int .u64 t496, .int .u64 t497, .int .u64 t498, .int .u64 t499]] (by rfl) rfl rfl (by (try simp only [List.map_toArray, List.map_cons, List.map_nil]); first | done | rfl | (simp only [List.length_drop, List.length_take]; rfl)) ?_
         with_reducible refine (rf17_times.calls t488 t489 t490 t491 t492 t493 t494 t495 t496 t497 t498 t499 t500 t501 t502 t503 t504 t505 _ A21.out).mono ?_
         rintro e w29 ⟨rfl, hb⟩
         refine ⟨_, rfl, ?_⟩
         have n0_ := Aside0.mk (blk_below (bk BK483.out) hb)
         have n1_ := Aside0.mk (blk_below (bk BK484.out) hb)
         have n2_ := Aside0.mk (blk_below (bk BK485.out) hb)
         have n3_ := Aside0.mk (blk_below (bk BK506.out) hb)
         have n4_ := Aside0.mk (below_step (by repeat (first | (with_reducible first | exact HB.out | apply below_alloc | apply pw_below_drewN | apply below_drew1 | refine below_set ?_ (Aside0.out (by assumption))) | exact HB.out)) hb)
         clear BK483
         clear BK484
         clear BK485
         clear BK506
         clear HB
         have BK483 := n0_
         have BK484 := n1_
         have BK485 := n2_
         have BK506 := n3_
         have HB := n4_
         clear n0_ n1_ n2_ n3_ n4_
         (try clear hb)
         (try clear hb2)
         (try clear hk)
         (try clear hi)
         refine hK.out _ _ ⟨(blk_cell BK483.out 0).trans rfl, (blk_cell BK483.out 1).trans rfl, (blk_cell BK483.out 2).trans rfl, (blk_cell BK484.out 0).trans rfl, (blk_cell BK484.out 1).trans rfl, (blk_cell BK484.out 2).trans rfl⟩ (fun hHeld => ?_)
         clear hK K
         refine norm_ (a' := ?_) ?_ ?_
         rotate_left
         ·show Act.put _ (some 30) _ = _
          simp only [Act.put, List.setIfInBounds_toArray, List.set_cons_zero, List.set_cons_succ, i64_w, i32_w]
          rfl
         exact norm_ (by simp only [putAll, Act.put, List.setIfInBounds_toArray, List.set_cons_zero, List.set_cons_succ]) (hCont (gb506) _ ⟨hHeld, (bk BK483.out), (bk BK484.out), (bk BK485.out), (bk BK506.out), GW506.out, GE506.out, NB483_506.out, NB506_483.out, NB484_506.out, NB506_484.out, NB485_506.out, NB506_485.out, (by repeat (first | (with_reducible first | exact HB.out | apply below_alloc | apply pw_below_drewN | apply below_drew1 | refine below_set ?_ (Aside0.out (by assumption))) | exact HB.out))⟩)
       ·skip
        refine box_step ?hg (N := 8) ?hd (cs := #[.bool false, .int .u64 0, .int .u64 0, .int .u64 0, .int .u64 0, .int .u64 0]) (t := 56) ?hr ?_; (case hd => rfl); (case hg => rfl); (case hr => first | (go_simp; done) | (go_simp; rfl))
        intro gb506 hg w26 hbox hb
        have n0_ := Aside0.mk (blk_below (bk BK483.out) hb)
        have n1_ := Aside0.mk (blk_below (bk BK484.out) hb)
        have n2_ := Aside0.mk (blk_below (bk BK485.out) hb)
        have n3_ := Aside0.mk (below_step (by repeat (first | (with_reducible first | exact HB.out | apply below_alloc | apply pw_below_drewN | apply below_drew1 | refine below_set ?_ (Aside0.out (by assumption))) | exact HB.out)) hb)
        have n4_ := Aside0.mk (hbox)
        have n5_ := Aside0.mk ((by rw [hg]; exact (below_size (by repeat (first | (with_reducible first | exact HB.out | apply below_alloc | apply pw_below_drewN | apply below_drew1 | refine below_set ?_ (Aside0.out (by assumption))) | exact HB.out))) : w.heap.size ≤ gb506))
        have n6_ := Aside0.mk ((by rw [hg]; exact (below_size (by repeat (first | (with_reducible first | exact HB.out | apply below_alloc | apply pw_below_drewN | apply below_drew1 | refine below_set ?_ (Aside0.out (by assumption))) | exact HB.out))) : w.heap.size ≤ gb506))
        have n7_ := Aside0.mk ((by rw [hg]; exact Nat.ne_of_lt (blk_lt (g := gb483) (o := .cells #[.int .u8 a0_0, .int .i64 a0_1, .string a0_2] 25 (0, 0)) (bk BK483.out)) : gb483 ≠ gb506))
        have n8_ := Aside0.mk ((by rw [hg]; exact Nat.ne_of_gt (blk_lt (g := gb483) (o := .cells #[.int .u8 a0_0, .int .i64 a0_1, .string a0_2] 25 (0, 0)) (bk BK483.out)) : gb506 ≠ gb483))
        have n9_ := Aside0.mk ((by rw [hg]; exact Nat.ne_of_lt (blk_lt (g := gb484) (o := .cells #[.int .u8 a1_0, .int .i64 a1_1, .string a1_2] 25 (0, 0)) (bk BK484.out)) : gb484 ≠ gb506))
        have n10_ := Aside0.mk ((by rw [hg]; exact Nat.ne_of_gt (blk_lt (g := gb484) (o := .cells #[.int .u8 a1_0, .int .i64 a1_1, .string a1_2] 25 (0, 0)) (bk BK484.out)) : gb506 ≠ gb484))
        have n11_ := Aside0.mk ((by rw [hg]; exact Nat.ne_of_lt (blk_lt (g := gb485) (o := .cells #[.int .u8 0, .int .i64 0, .string (⟨#[]⟩ : ByteArray)] 25 (0, 0)) (bk BK485.out)) : gb485 ≠ gb506))
        have n12_ := Aside0.mk ((by rw [hg]; exact Nat.ne_of_gt (blk_lt (g := gb485) (o := .cells #[.int .u8 0, .int .i64 0, .string (⟨#[]⟩ : ByteArray)] 25 (0, 0)) (bk BK485.out)) : gb506 ≠ gb485))
        clear BK483
        clear BK484
        clear BK485
        clear HB
        have BK483 := n0_
        have BK484 := n1_
        have BK485 := n2_
        have HB := n3_
        have BK506 := n4_
        have GW506 := n5_
        have GE506 := n6_
        have NB483_506 := n7_
        have NB506_483 := n8_
        have NB484_506 := n9_
        have NB506_484 := n10_
        have NB485_506 := n11_
        have NB506_485 := n12_
        clear n0_ n1_ n2_ n3_ n4_ n5_ n6_ n7_ n8_ n9_ n10_ n11_ n12_
        clear hb hbox hg
        refine hK.out _ _ ⟨(blk_cell BK483.out 0).trans rfl, (blk_cell BK483.out 1).trans rfl, (blk_cell BK483.out 2).trans rfl, (blk_cell BK484.out 0).trans rfl, (blk_cell BK484.out 1).trans rfl, (blk_cell BK484.out 2).trans rfl⟩ (fun hHeld => ?_)
        clear hK K
        refine norm_ (a' := ?_) ?_ ?_
        rotate_left
        ·show Act.put _ (some 8) _ = _
         simp only [Act.put, List.setIfInBounds_toArray, List.set_cons_zero, List.set_cons_succ, i64_w, i32_w]
         rfl
        refine one_ (i := 2) (N := some 26) #[true, true, true, true, true, false, false, true, false] rfl rfl (one_of HT_.out (by kernel_rfl)) (by decide) (fun K hK => ?_)
        refine goes_ Tryd.func66 (by kernel_rfl) rfl #[.int .i64 a0_1] (by rfl) rfl rfl (by (try simp only [List.map_toArray, List.map_cons, List.map_nil]); first | done | rfl | (simp only [List.length_drop, List.length_take]; rfl)) ?_
        with_reducible refine (rf17_big.calls a0_1 t488 t489 t490 t491 t492 t493 _ A19.out).mono ?_
        rintro e w27 ⟨rfl, hb⟩
        refine ⟨_, rfl, ?_⟩
        have n0_ := Aside0.mk (blk_below (bk BK483.out) hb)
        have n1_ := Aside0.mk (blk_below (bk BK484.out) hb)
        have n2_ := Aside0.mk (blk_below (bk BK485.out) hb)
        have n3_ := Aside0.mk (blk_below (bk BK506.out) hb)
        have n4_ := Aside0.mk (below_step (by repeat (first | (with_reducible first | exact HB.out | apply below_alloc | apply pw_below_drewN | apply below_drew1 | refine below_set ?_ (Aside0.out (by assumption))) | exact HB.out)) hb)
        clear BK483
        clear BK484
        clear BK485
        clear BK506
        clear HB
        have BK483 := n0_
        have BK484 := n1_
        have BK485 := n2_
        have BK506 := n3_
        have HB := n4_
        clear n0_ n1_ n2_ n3_ n4_
        (try clear hb)
        (try clear hb2)
        (try clear hk)
        (try clear hi)
        refine hK.out _ _ ⟨(blk_cell BK483.out 0).trans rfl, (blk_cell BK483.out 1).trans rfl, (blk_cell BK483.out 2).trans rfl, (blk_cell BK484.out 0).trans rfl, (blk_cell BK484.out 1).trans rfl, (blk_cell BK484.out 2).trans rfl⟩ (fun hHeld => ?_)
        clear hK K
        refine norm_ (a' := ?_) ?_ ?_
        rotate_left
        ·show Act.put _ (some 26) _ = _
         simp only [Act.put, List.setIfInBounds_toArray, List.set_cons_zero, List.set_cons_succ, i64_w, i32_w]
         rfl
        refine one_ (i := 5) (N := some 29) #[true, true, true, true, true, true, false, true, false] rfl rfl (one_of HT_.out (by kernel_rfl)) (by decide) (fun K hK => ?_)
        refine goes_ Tryd.func66 (by kernel_rfl) rfl #[.int .i64 a1_1] (by rfl) rfl rfl (by (try simp only [List.map_toArray, List.map_cons, List.map_nil]); first | done | rfl | (simp only [List.length_drop, List.length_take]; rfl)) ?_
        with_reducible refine (rf17_big.calls a1_1 t494 t495 t496 t497 t498 t499 _ A20.out).mono ?_
        rintro e w28 ⟨rfl, hb⟩
        refine ⟨_, rfl, ?_⟩
        have n0_ := Aside0.mk (blk_below (bk BK483.out) hb)
        have n1_ := Aside0.mk (blk_below (bk BK484.out) hb)
        have n2_ := Aside0.mk (blk_below (bk BK485.out) hb)
        have n3_ := Aside0.mk (blk_below (bk BK506.out) hb)
        have n4_ := Aside0.mk (below_step (by repeat (first | (with_reducible first | exact HB.out | apply below_alloc | apply pw_below_drewN | apply below_drew1 | refine below_set ?_ (Aside0.out (by assumption))) | exact HB.out)) hb)
        clear BK483
        clear BK484
        clear BK485
        clear BK506
        clear HB
        have BK483 := n0_
        have BK484 := n1_
        have BK485 := n2_
        have BK506 := n3_
        have HB := n4_
        clear n0_ n1_ n2_ n3_ n4_
        (try clear hb)
        (try clear hb2)
        (try clear hk)
        (try clear hi)
        refine hK.out _ _ ⟨(blk_cell BK483.out 0).trans rfl, (blk_cell BK483.out 1).trans rfl, (blk_cell BK483.out 2).trans rfl, (blk_cell BK484.out 0).trans rfl, (blk_cell BK484.out 1).trans rfl, (blk_cell BK484.out 2).trans rfl⟩ (fun hHeld => ?_)
        clear hK K
        refine norm_ (a' := ?_) ?_ ?_
        rotate_left
        ·show Act.put _ (some 29) _ = _
         simp only [Act.put, List.setIfInBounds_toArray, List.set_cons_zero, List.set_cons_succ, i64_w, i32_w]
         rfl
        refine one_ (i := 6) (N := some 30) #[true, true, true, true, true, true, true, true, false] rfl rfl (one_of HT_.out (by kernel_rfl)) (by decide) (fun K hK => ?_)
        refine goes_ Tryd.func67 (by kernel_rfl) rfl #[.agg #[.bool t488, .int .u64 t489, .int .u64 t490, .int .u64 t491, .int .u64 t492, .int .u64 t493], .agg #[.bool t494, .int .u64 t495, .int .u64 t496, .int .u64 t497, .int .u64 t498, .int .u64 t499]] (by rfl) rfl rfl (by (try simp only [List.map_toArray, List.map_cons, List.map_nil]); first | done | rfl | (simp only [List.length_drop, List.length_take]; rfl)) ?_
        with_reducible refine (rf17_times.calls t488 t489 t490 t491 t492 t493 t494 t495 t496 t497 t498 t499 t500 t501 t502 t503 t504 t505 _ A21.out).mono ?_
        rintro e w29 ⟨rfl, hb⟩
        refine ⟨_, rfl, ?_⟩
        have n0_ := Aside0.mk (blk_below (bk BK483.out) hb)
        have n1_ := Aside0.mk (blk_below (bk BK484.out) hb)
        have n2_ := Aside0.mk (blk_below (bk BK485.out) hb)
        have n3_ := Aside0.mk (blk_below (bk BK506.out) hb)
        have n4_ := Aside0.mk (below_step (by repeat (first | (with_reducible first | exact HB.out | apply below_alloc | apply pw_below_drewN | apply below_drew1 | refine below_set ?_ (Aside0.out (by assumption))) | exact HB.out)) hb)
        clear BK483
        clear BK484
        clear BK485
        clear BK506
        clear HB
        have BK483 := n0_
        have BK484 := n1_
        have BK485 := n2_
        have BK506 := n3_
        have HB := n4_
        clear n0_ n1_ n2_ n3_ n4_
        (try clear hb)
        (try clear hb2)
        (try clear hk)
        (try clear hi)
        refine hK.out _ _ ⟨(blk_cell BK483.out 0).trans rfl, (blk_cell BK483.out 1).trans rfl, (blk_cell BK483.out 2).trans rfl, (blk_cell BK484.out 0).trans rfl, (blk_cell BK484.out 1).trans rfl, (blk_cell BK484.out 2).trans rfl⟩ (fun hHeld => ?_)
        clear hK K
        refine norm_ (a' := ?_) ?_ ?_
        rotate_left
        ·show Act.put _ (some 30) _ = _
         simp only [Act.put, List.setIfInBounds_toArray, List.set_cons_zero, List.set_cons_succ, i64_w, i32_w]
         rfl
        exact norm_ (by simp only [putAll, Act.put, List.setIfInBounds_toArray, List.set_cons_zero, List.set_cons_succ]) (hCont (gb506) _ ⟨hHeld, (bk BK483.out), (bk BK484.out), (bk BK485.out), (bk BK506.out), GW506.out, GE506.out, NB483_506.out, NB506_483.out, NB484_506.out, NB506_484.out, NB485_506.out, NB506_485.out, (by repeat (first | (with_reducible first | exact HB.out | apply below_alloc | apply pw_below_drewN | apply below_drew1 | refine below_set ?_ (Aside0.out (by assumption))) | exact HB.out))⟩)
      rintro gb506 w30 ⟨hS_, h0_, h1_, h2_, h3_, h4_, h5_, h6_, h7_, h8_, h9_, h10_, h11_, h12_⟩
      have n0_ : Aside0 (w30.heap[gb483]? = some (.cells #[.int .u8 a0_0, .int .i64 a0_1, .string a0_2] 25 (0, 0))) := ⟨h0_⟩
      have n1_ : Aside0 (w30.heap[gb484]? = some (.cells #[.int .u8 a1_0, .int .i64 a1_1, .string a1_2] 25 (0, 0))) := ⟨h1_⟩
      have n2_ : Aside0 (w30.heap[gb485]? = some (.cells #[.int .u8 0, .int .i64 0, .string (⟨#[]⟩ : ByteArray)] 25 (0, 0))) := ⟨h2_⟩
      have n3_ : Aside0 (w30.heap[gb506]? = some (.cells #[.bool false, .int .u64 0, .int .u64 0, .int .u64 0, .int .u64 0, .int .u64 0] 56 (0, 0))) := ⟨h3_⟩
      have n4_ : Aside0 (w.heap.size ≤ gb506) := ⟨h4_⟩
      have n5_ : Aside0 (w.heap.size ≤ gb506) := ⟨h5_⟩
      have n6_ : Aside0 (gb483 ≠ gb506) := ⟨h6_⟩
      have n7_ : Aside0 (gb506 ≠ gb483) := ⟨h7_⟩
      have n8_ : Aside0 (gb484 ≠ gb506) := ⟨h8_⟩
      have n9_ : Aside0 (gb506 ≠ gb484) := ⟨h9_⟩
      have n10_ : Aside0 (gb485 ≠ gb506) := ⟨h10_⟩
      have n11_ : Aside0 (gb506 ≠ gb485) := ⟨h11_⟩
      have n12_ : Aside0 (Below w.heap.size w w30) := ⟨h12_⟩
      clear BK483
      clear BK484
      clear BK485
      clear HB
      clear h0_ h1_ h2_ h3_ h4_ h5_ h6_ h7_ h8_ h9_ h10_ h11_ h12_
      have BK483 := n0_
      have BK484 := n1_
      have BK485 := n2_
      have BK506 := n3_
      have GW506 := n4_
      have GE506 := n5_
      have NB483_506 := n6_
      have NB506_483 := n7_
      have NB484_506 := n8_
      have NB506_484 := n9_
      have NB485_506 := n10_
      have NB506_485 := n11_
      have HB := n12_
      clear n0_ n1_ n2_ n3_ n4_ n5_ n6_ n7_ n8_ n9_ n10_ n11_ n12_
      have hHeld : w30.cell? ⟨gb483, 0, none⟩ = some (.int .u8 a0_0) ∧ w30.cell? ⟨gb483, 1, none⟩ = some (.int .i64 a0_1) ∧ w30.cell? ⟨gb483, 2, none⟩ = some (.string a0_2) ∧ w30.cell? ⟨gb484, 0, none⟩ = some (.int .u8 a1_0) ∧ w30.cell? ⟨gb484, 1, none⟩ = some (.int .i64 a1_1) ∧ w30.cell? ⟨gb484, 2, none⟩ = some (.string a1_2) := hS_
      refine norm_ (a' := ?_) ?_ ?_
      rotate_left
      ·simp only [putAll, Act.put, List.setIfInBounds_toArray, List.set_cons_zero, List.set_cons_succ]
       rfl
      refine one_ (i := 8) (N := none) #[true, true, true, true, true, true, true, true, true] rfl rfl (one_of HT_.out (by kernel_rfl)) (by decide) (fun K hK => ?_)
      have hs31 : w30.cell? ⟨gb506, 0, none⟩ = some (.bool false) := (blk_cell BK506.out 0).trans rfl
      have hfs31 := blk_frozen BK506.out 0
      have hns31_0 := NB483_506.out
      have hns31_1 := NB484_506.out
      have hns31_2 := NB485_506.out
      have hms31_0 := NB506_483.out
      have hms31_1 := NB506_484.out
      have hms31_2 := NB506_485.out
      have hs32 : w30.cell? ⟨gb506, 1, none⟩ = some (.int .u64 0) := (blk_cell BK506.out 1).trans rfl
      have hfs32 := blk_frozen BK506.out 1
      have hns32_0 := NB483_506.out
      have hns32_1 := NB484_506.out
      have hns32_2 := NB485_506.out
      have hms32_0 := NB506_483.out
      have hms32_1 := NB506_484.out
      have hms32_2 := NB506_485.out
      have hs33 : w30.cell? ⟨gb506, 2, none⟩ = some (.int .u64 0) := (blk_cell BK506.out 2).trans rfl
      have hfs33 := blk_frozen BK506.out 2
      have hns33_0 := NB483_506.out
      have hns33_1 := NB484_506.out
      have hns33_2 := NB485_506.out
      have hms33_0 := NB506_483.out
      have hms33_1 := NB506_484.out
      have hms33_2 := NB506_485.out
      have hs34 : w30.cell? ⟨gb506, 3, none⟩ = some (.int .u64 0) := (blk_cell BK506.out 3).trans rfl
      have hfs34 := blk_frozen BK506.out 3
      have hns34_0 := NB483_506.out
      have hns34_1 := NB484_506.out
      have hns34_2 := NB485_506.out
      have hms34_0 := NB506_483.out
      have hms34_1 := NB506_484.out
      have hms34_2 := NB506_485.out
      have hs35 : w30.cell? ⟨gb506, 4, none⟩ = some (.int .u64 0) := (blk_cell BK506.out 4).trans rfl
      have hfs35 := blk_frozen BK506.out 4
      have hns35_0 := NB483_506.out
      have hns35_1 := NB484_506.out
      have hns35_2 := NB485_506.out
      have hms35_0 := NB506_483.out
      have hms35_1 := NB506_484.out
      have hms35_2 := NB506_485.out
      have hs36 : w30.cell? ⟨gb506, 5, none⟩ = some (.int .u64 0) := (blk_cell BK506.out 5).trans rfl
      have hfs36 := blk_frozen BK506.out 5
      have hns36_0 := NB483_506.out
      have hns36_1 := NB484_506.out
      have hns36_2 := NB485_506.out
      have hms36_0 := NB506_483.out
      have hms36_1 := NB506_484.out
      have hms36_2 := NB506_485.out
      refine skip_ (w1 := ?_) (by rfl) rfl ?_ ?_
      rotate_left
      ·go_simp
       rfl
      refine hK.out _ _ ⟨((cell_far (p := ⟨gb506, _, none⟩) NB483_506.out _).trans (((cell_far (p := ⟨gb506, _, none⟩) NB483_506.out _).trans (((cell_far (p := ⟨gb506, _, none⟩) NB483_506.out _).trans (((cell_far (p := ⟨gb506, _, none⟩) NB483_506.out _).trans (((cell_far (p := ⟨gb506, _, none⟩) NB483_506.out _).trans (((cell_far (p := ⟨gb506, _, none⟩) NB483_506.out _).trans (hHeld.1)))))))))))), ((cell_far (p := ⟨gb506, _, none⟩) NB483_506.out _).trans (((cell_far (p := ⟨gb506, _, none⟩) NB483_506.out _).trans (((cell_far (p := ⟨gb506, _, none⟩) NB483_506.out _).trans (((cell_far (p := ⟨gb506, _, none⟩) NB483_506.out _).trans (((cell_far (p := ⟨gb506, _, none⟩) NB483_506.out _).trans (((cell_far (p := ⟨gb506, _, none⟩) NB483_506.out _).trans (hHeld.2.1)))))))))))), ((cell_far (p := ⟨gb506, _, none⟩) NB483_506.out _).trans (((cell_far (p := ⟨gb506, _, none⟩) NB483_506.out _).trans (((cell_far (p := ⟨gb506, _, none⟩) NB483_506.out _).trans (((cell_far (p := ⟨gb506, _, none⟩) NB483_506.out _).trans (((cell_far (p := ⟨gb506, _, none⟩) NB483_506.out _).trans (((cell_far (p := ⟨gb506, _, none⟩) NB483_506.out _).trans (hHeld.2.2.1)))))))))))), ((cell_far (p := ⟨gb506, _, none⟩) NB484_506.out _).trans (((cell_far (p := ⟨gb506, _, none⟩) NB484_506.out _).trans (((cell_far (p := ⟨gb506, _, none⟩) NB484_506.out _).trans (((cell_far (p := ⟨gb506, _, none⟩) NB484_506.out _).trans (((cell_far (p := ⟨gb506, _, none⟩) NB484_506.out _).trans (((cell_far (p := ⟨gb506, _, none⟩) NB484_506.out _).trans (hHeld.2.2.2.1)))))))))))), ((cell_far (p := ⟨gb506, _, none⟩) NB484_506.out _).trans (((cell_far (p := ⟨gb506, _, none⟩) NB484_506.out _).trans (((cell_far (p := ⟨gb506, _, none⟩) NB484_506.out _).trans (((cell_far (p := ⟨gb506, _, none⟩) NB484_506.out _).trans (((cell_far (p := ⟨gb506, _, none⟩) NB484_506.out _).trans (((cell_far (p := ⟨gb506, _, none⟩) NB484_506.out _).trans (hHeld.2.2.2.2.1)))))))))))), ((cell_far (p := ⟨gb506, _, none⟩) NB484_506.out _).trans (((cell_far (p := ⟨gb506, _, none⟩) NB484_506.out _).trans (((cell_far (p := ⟨gb506, _, none⟩) NB484_506.out _).trans (((cell_far (p := ⟨gb506, _, none⟩) NB484_506.out _).trans (((cell_far (p := ⟨gb506, _, none⟩) NB484_506.out _).trans (((cell_far (p := ⟨gb506, _, none⟩) NB484_506.out _).trans (hHeld.2.2.2.2.2))))))))))))⟩ (fun hHeld => ?_)
      clear hK K
      refine done_ (done_of HT_.out (by kernel_rfl)) ?_
      have hnb37 := NB483_484.out
      have hnc37 := NB484_483.out
      have hnb38 := NB483_485.out
      have hnc38 := NB485_483.out
      have hnb39 := NB483_506.out
      have hnc39 := NB506_483.out
      have hcz40_0 : w30.cell? ⟨gb483, 0, none⟩ = some (.int .u8 a0_0) := (blk_cell BK483.out 0).trans rfl
      have hcz40_1 : w30.cell? ⟨gb483, 1, none⟩ = some (.int .i64 a0_1) := (blk_cell BK483.out 1).trans rfl
      have hcz40_2 : w30.cell? ⟨gb483, 2, none⟩ = some (.string a0_2) := (blk_cell BK483.out 2).trans rfl
      have hfz40_0 := blk_frozen BK483.out 0
      have hfz40_1 := blk_frozen BK483.out 1
      have hfz40_2 := blk_frozen BK483.out 2
      have hnb41 := NB484_485.out
      have hnc41 := NB485_484.out
      have hnb42 := NB484_506.out
      have hnc42 := NB506_484.out
      have hcz43_0 : w30.cell? ⟨gb484, 0, none⟩ = some (.int .u8 a1_0) := (blk_cell BK484.out 0).trans rfl
      have hcz43_1 : w30.cell? ⟨gb484, 1, none⟩ = some (.int .i64 a1_1) := (blk_cell BK484.out 1).trans rfl
      have hcz43_2 : w30.cell? ⟨gb484, 2, none⟩ = some (.string a1_2) := (blk_cell BK484.out 2).trans rfl
      have hfz43_0 := blk_frozen BK484.out 0
      have hfz43_1 := blk_frozen BK484.out 1
      have hfz43_2 := blk_frozen BK484.out 2
      have hnb44 := NB506_485.out
      have hnc44 := NB485_506.out
      have hcz45_0 : w30.cell? ⟨gb506, 0, none⟩ = some (.bool false) := (blk_cell BK506.out 0).trans rfl
      have hcz45_1 : w30.cell? ⟨gb506, 1, none⟩ = some (.int .u64 0) := (blk_cell BK506.out 1).trans rfl
      have hcz45_2 : w30.cell? ⟨gb506, 2, none⟩ = some (.int .u64 0) := (blk_cell BK506.out 2).trans rfl
      have hcz45_3 : w30.cell? ⟨gb506, 3, none⟩ = some (.int .u64 0) := (blk_cell BK506.out 3).trans rfl
      have hcz45_4 : w30.cell? ⟨gb506, 4, none⟩ = some (.int .u64 0) := (blk_cell BK506.out 4).trans rfl
      have hcz45_5 : w30.cell? ⟨gb506, 5, none⟩ = some (.int .u64 0) := (blk_cell BK506.out 5).trans rfl
      have hfz45_0 := blk_frozen BK506.out 0
      have hfz45_1 := blk_frozen BK506.out 1
      have hfz45_2 := blk_frozen BK506.out 2
      have hfz45_3 := blk_frozen BK506.out 3
      have hfz45_4 := blk_frozen BK506.out 4
      have hfz45_5 := blk_frozen BK506.out 5
      try go_wp2_with (first | ((with_reducible refine gate_callee (f := 65) rfl ?_); refine goesL_ (some 44) rfl rfl Tryd.func65 (by kernel_rfl) rfl #[.int .u8 2, .agg #[.bool t500, .int .u64 t501, .int .u64 t502, .int .u64 t503, .int .u64 t504, .int .u64 t505]] rfl (by (try simp only [List.map_toArray, List.map_cons, List.map_nil]); first | done | rfl | (simp only [List.length_drop, List.length_take]; rfl)) ?_; (with_reducible refine (rf17_answer.calls 2 t500 t501 t502 t503 t504 t505 t511 t512 t513 t514 _ A24.out).mono ?_); rintro e w46 ⟨rfl, hb⟩; refine ⟨_, rfl, ?_⟩; have n0_ := Aside0.mk (blk_below (g := gb483) (o := .cells #[.int .u8 a0_0, .int .i64 a0_1, .string a0_2] 25 (0, 0)) (by (with_reducible repeat (first | refine blk_drewN ?_ _ | refine blk_drew ?_ | refine blk_alloc ?_ _ | refine blk_far ?_ NB483_506.out _)); exact BK483.out) hb); have n1_ := Aside0.mk (blk_below (g := gb484) (o := .cells #[.int .u8 a1_0, .int .i64 a1_1, .string a1_2] 25 (0, 0)) (by (with_reducible repeat (first | refine blk_drewN ?_ _ | refine blk_drew ?_ | refine blk_alloc ?_ _ | refine blk_far ?_ NB484_506.out _)); exact BK484.out) hb); have n2_ := Aside0.mk (blk_below (g := gb485) (o := .cells #[.int .u8 0, .int .i64 0, .string (⟨#[]⟩ : ByteArray)] 25 (0, 0)) (by (with_reducible repeat (first | refine blk_drewN ?_ _ | refine blk_drew ?_ | refine blk_alloc ?_ _ | refine blk_far ?_ NB485_506.out _)); exact BK485.out) hb); have n3_ := Aside0.mk (blk_below (g := gb506) (o := .cells #[.bool t500, .int .u64 t501, .int .u64 t502, .int .u64 t503, .int .u64 t504, .int .u64 t505] 56 (0, 0)) (by (with_reducible repeat first | apply blk_drewN | apply blk_drew | apply blk_alloc); refine blk_put (cs := #[.bool t500, .int .u64 t501, .int .u64 t502, .int .u64 t503, .int .u64 t504, .int .u64 0]) ?_ 5 _ rfl; refine blk_put (cs := #[.bool t500, .int .u64 t501, .int .u64 t502, .int .u64 t503, .int .u64 0, .int .u64 0]) ?_ 4 _ rfl; refine blk_put (cs := #[.bool t500, .int .u64 t501, .int .u64 t502, .int .u64 0, .int .u64 0, .int .u64 0]) ?_ 3 _ rfl; refine blk_put (cs := #[.bool t500, .int .u64 t501, .int .u64 0, .int .u64 0, .int .u64 0, .int .u64 0]) ?_ 2 _ rfl; refine blk_put (cs := #[.bool t500, .int .u64 0, .int .u64 0, .int .u64 0, .int .u64 0, .int .u64 0]) ?_ 1 _ rfl; refine blk_put (cs := #[.bool false, .int .u64 0, .int .u64 0, .int .u64 0, .int .u64 0, .int .u64 0]) ?_ 0 _ rfl; (with_reducible repeat first | apply blk_drewN | apply blk_drew | apply blk_alloc); exact BK506.out) hb); have n4_ := Aside0.mk (below_step (by repeat (first | (with_reducible first | exact HB.out | apply below_alloc | apply pw_below_drewN | apply below_drew1 | refine below_set ?_ (Aside0.out (by assumption))) | exact HB.out)) hb); clear BK483; clear BK484; clear BK485; clear BK506; clear HB; have BK483 := n0_; have BK484 := n1_; have BK485 := n2_; have BK506 := n3_; have HB := n4_; clear n0_ n1_ n2_ n3_ n4_; (try clear hb); (try clear hb2); (try clear hk); (try clear hi); have hcz47_0 : w46.cell? ⟨gb485, 0, none⟩ = some (.int .u8 0) := (blk_cell BK485.out 0).trans rfl; have hcz47_1 : w46.cell? ⟨gb485, 1, none⟩ = some (.int .i64 0) := (blk_cell BK485.out 1).trans rfl; have hcz47_2 : w46.cell? ⟨gb485, 2, none⟩ = some (.string (⟨#[]⟩ : ByteArray)) := (blk_cell BK485.out 2).trans rfl; have hfz47_0 := blk_frozen BK485.out 0; have hfz47_1 := blk_frozen BK485.out 1; have hfz47_2 := blk_frozen BK485.out 2))
      refine bodyPost_ret (results_ct rfl _ _ gb485 25 #[.int .u8 t511, .int .i64 t512, .string t513] (0, 0) _ rfl (by (with_reducible repeat first | apply blk_drewN | apply blk_drew | apply blk_alloc); refine blk_put (cs := #[.int .u8 t511, .int .i64 t512, .string (⟨#[]⟩ : ByteArray)]) ?_ 2 _ rfl; (with_reducible repeat first | apply blk_drewN | apply blk_drew | apply blk_alloc); refine blk_put (cs := #[.int .u8 t511, .int .i64 0, .string (⟨#[]⟩ : ByteArray)]) ?_ 1 _ rfl; (with_reducible repeat first | apply blk_drewN | apply blk_drew | apply blk_alloc); refine blk_put (cs := #[.int .u8 0, .int .i64 0, .string (⟨#[]⟩ : ByteArray)]) ?_ 0 _ rfl; (with_reducible repeat first | apply blk_drewN | apply blk_drew | apply blk_alloc); exact BK485.out) Tryd.underlying25 rfl (by kernel_rfl)) rfl ?_
      exact ⟨by first | rfl | (simp [errW_none, errW_some] <;> rfl) | (simp [*, errW_none, errW_some] <;> rfl), by repeat (first | (with_reducible first | exact HB.out | apply below_alloc | apply pw_below_drewN | apply below_drew1 | refine below_set ?_ (Aside0.out (by assumption))) | exact HB.out)⟩
     ·rw [if_neg c23] at H
      have c23b0 : (a0_0 == 2) = false := beq_eq_false_iff_ne.mpr c23
      have c23b1 : (a0_0 != 2) = true := bne_iff_ne.mpr c23
      replace H := Option.bind_eq_some_iff.mp H
      obtain ⟨⟨t515, t516, t517, t518, t519, t520⟩, A480, H⟩ := H
      replace H : (if t520 > 5000 then (rf17_Mul.j1 kj3 true t500 t501 t502 t503 t504 t505 t515 t516 t517 t518 t519) else (if t520 = 5000 then (rf17_Mul.j1 kj3 ((Int.tmod t515 2) == 1) t500 t501 t502 t503 t504 t505 t515 t516 t517 t518 t519) else (rf17_Mul.j1 kj3 false t500 t501 t502 t503 t504 t505 t515 t516 t517 t518 t519))) = some (r1, r2, r3, r4) := H
      have A48 := Aside0.mk A480
      clear A480
      have HC49 := Aside0.mk H
      clear H
      try go_wp2
      have n0_ := Aside0.mk (blk_drew BK483.out)
      have n1_ := Aside0.mk (blk_drew BK484.out)
      have n2_ := Aside0.mk (blk_drew BK485.out)
      have n3_ := Aside0.mk (below_drew1 HB.out)
      clear BK483
      clear BK484
      clear BK485
      clear HB
      have BK483 := n0_
      have BK484 := n1_
      have BK485 := n2_
      have HB := n3_
      clear n0_ n1_ n2_ n3_
      refine start_ (n := 9) (S := fun w' => w'.cell? ⟨gb483, 0, none⟩ = some (.int .u8 a0_0) ∧ w'.cell? ⟨gb483, 1, none⟩ = some (.int .i64 a0_1) ∧ w'.cell? ⟨gb483, 2, none⟩ = some (.string a0_2) ∧ w'.cell? ⟨gb484, 0, none⟩ = some (.int .u8 a1_0) ∧ w'.cell? ⟨gb484, 1, none⟩ = some (.int .i64 a1_1) ∧ w'.cell? ⟨gb484, 2, none⟩ = some (.string a1_2)) (ds := []) #[false, false, false, false, false, false, false, false, false] (by kernel_rfl) rfl rfl ⟨(blk_cell BK483.out 0).trans rfl, (blk_cell BK483.out 1).trans rfl, (blk_cell BK483.out 2).trans rfl, (blk_cell BK484.out 0).trans rfl, (blk_cell BK484.out 1).trans rfl, (blk_cell BK484.out 2).trans rfl⟩ (fun hHeld => ?_); refine with_tabW rf17_Mul.tab4 rf17_Mul.bits4 (fun HT_ HW_ => ?_)
      generalize wc.drew = w50 at BK483 BK484 BK485 HB hHeld ⊢
      refine pure_ (i := 0) (N := some 24) (v := ?_) (a' := ?_) #[true, false, false, false, false, false, false, false, false] rfl rfl (any_of HT_.out (by kernel_rfl)) (fun _ _ _ h => h) (Or.inl ⟨by rfl, ?_⟩) ?_ ?_
      rotate_left
      ·intro w'
       go_simp
       with_reducible rfl
      rotate_left
      ·simp only [Act.put, List.setIfInBounds_toArray, List.set_cons_zero, List.set_cons_succ, i64_w, i32_w]
       rfl
      refine pure_ (i := 3) (N := some 27) (v := ?_) (a' := ?_) #[true, false, false, true, false, false, false, false, false] rfl rfl (any_of HT_.out (by kernel_rfl)) (fun _ _ _ h => h) (Or.inl ⟨by rfl, ?_⟩) ?_ ?_
      rotate_left
      ·intro w'
       go_simp
       with_reducible rfl
      rotate_left
      ·simp only [Act.put, List.setIfInBounds_toArray, List.set_cons_zero, List.set_cons_succ, i64_w, i32_w]
       rfl
      refine take_ (i := 1) (N := some 25) (v := ?_) (a' := ?_) #[true, true, false, true, false, false, false, false, false] rfl rfl (take_ofW HT_.out HW_.out (by kernel_rfl)) (fun _ _ _ h => h) (Or.inl ⟨by rfl, ?_⟩) hHeld ?_ ?_
      rotate_left
      ·rintro w' ⟨s0, s1, s2, s3, s4, s5⟩
       go_simp
       with_reducible rfl
      rotate_left
      ·simp only [Act.put, List.setIfInBounds_toArray, List.set_cons_zero, List.set_cons_succ, i64_w, i32_w]
       rfl
      refine take_ (i := 4) (N := some 28) (v := ?_) (a' := ?_) #[true, true, false, true, true, false, false, false, false] rfl rfl (take_ofW HT_.out HW_.out (by kernel_rfl)) (fun _ _ _ h => h) (Or.inl ⟨by rfl, ?_⟩) hHeld ?_ ?_
      rotate_left
      ·rintro w' ⟨s0, s1, s2, s3, s4, s5⟩
       go_simp
       with_reducible rfl
      rotate_left
      ·simp only [Act.put, List.setIfInBounds_toArray, List.set_cons_zero, List.set_cons_succ, i64_w, i32_w]
       rfl
      refine join_ (σ := Nat) 1 #[true, true, true, true, true, true, true, true, false] (fun s_ => [(26, .agg #[.bool t488, .int .u64 t489, .int .u64 t490, .int .u64 t491, .int .u64 t492, .int .u64 t493]), (29, .agg #[.bool t494, .int .u64 t495, .int .u64 t496, .int .u64 t497, .int .u64 t498, .int .u64 t499]), (30, .agg #[.bool t500, .int .u64 t501, .int .u64 t502, .int .u64 t503, .int .u64 t504, .int .u64 t505]), (8, .pointer (some ⟨s_, 0, none⟩))]) (fun s_ w' => (w'.cell? ⟨gb483, 0, none⟩ = some (.int .u8 a0_0) ∧ w'.cell? ⟨gb483, 1, none⟩ = some (.int .i64 a0_1) ∧ w'.cell? ⟨gb483, 2, none⟩ = some (.string a0_2) ∧ w'.cell? ⟨gb484, 0, none⟩ = some (.int .u8 a1_0) ∧ w'.cell? ⟨gb484, 1, none⟩ = some (.int .i64 a1_1) ∧ w'.cell? ⟨gb484, 2, none⟩ = some (.string a1_2)) ∧ (w'.heap[gb483]? = some (.cells #[.int .u8 a0_0, .int .i64 a0_1, .string a0_2] 25 (0, 0))) ∧ (w'.heap[gb484]? = some (.cells #[.int .u8 a1_0, .int .i64 a1_1, .string a1_2] 25 (0, 0))) ∧ (w'.heap[gb485]? = some (.cells #[.int .u8 0, .int .i64 0, .string (⟨#[]⟩ : ByteArray)] 25 (0, 0))) ∧ (w'.heap[s_]? = some (.cells #[.bool false, .int .u64 0, .int .u64 0, .int .u64 0, .int .u64 0, .int .u64 0] 56 (0, 0))) ∧ (w.heap.size ≤ s_) ∧ (w.heap.size ≤ s_) ∧ (gb483 ≠ s_) ∧ (s_ ≠ gb483) ∧ (gb484 ≠ s_) ∧ (s_ ≠ gb484) ∧ (gb485 ≠ s_) ∧ (s_ ≠ gb485) ∧ (Below w.heap.size w w')) ?_ ?_
      rotate_left
      ·intro hCont
       refine two_ (i := 2) (j := 7) (Ni := some 26) (Nj := some 8) #[true, true, true, true, true, false, false, false, false] #[true, true, false, true, true, false, false, true, false] rfl rfl rfl rfl (two_of HT_.out (by kernel_rfl)) (by decide) (by decide) (fun K hK => ?_) (fun K hK => ?_)
       ·skip
        refine goes_ Tryd.func66 (by kernel_rfl) rfl #[.int .i64 a0_1] (by rfl) rfl rfl (by (try simp only [List.map_toArray, List.map_cons, List.map_nil]); first | done | rfl | (simp only [List.length_drop, List.length_take]; rfl)) ?_
        with_reducible refine (rf17_big.calls a0_1 t488 t489 t490 t491 t492 t493 _ A19.out).mono ?_
        rintro e w51 ⟨rfl, hb⟩
        refine ⟨_, rfl, ?_⟩
        have n0_ := Aside0.mk (blk_below (bk BK483.out) hb)
        have n1_ := Aside0.mk (blk_below (bk BK484.out) hb)
        have n2_ := Aside0.mk (blk_below (bk BK485.out) hb)
        have n3_ := Aside0.mk (below_step (by repeat (first | (with_reducible first | exact HB.out | apply below_alloc | apply pw_below_drewN | apply below_drew1 | refine below_set ?_ (Aside0.out (by assumption))) | exact HB.out)) hb)
        clear BK483
        clear BK484
        clear BK485
        clear HB
        have BK483 := n0_
        have BK484 := n1_
        have BK485 := n2_
        have HB := n3_
        clear n0_ n1_ n2_ n3_
        (try clear hb)
        (try clear hb2)
        (try clear hk)
        (try clear hi)
        refine hK.out _ _ ⟨(blk_cell BK483.out 0).trans rfl, (blk_cell BK483.out 1).trans rfl, (blk_cell BK483.out 2).trans rfl, (blk_cell BK484.out 0).trans rfl, (blk_cell BK484.out 1).trans rfl, (blk_cell BK484.out 2).trans rfl⟩ (fun hHeld => ?_)
        clear hK K
        refine norm_ (a' := ?_) ?_ ?_
        rotate_left
        ·show Act.put _ (some 26) _ = _
         simp only [Act.put, List.setIfInBounds_toArray, List.set_cons_zero, List.set_cons_succ, i64_w, i32_w]
         rfl
        refine two_ (i := 5) (j := 7) (Ni := some 29) (Nj := some 8) #[true, true, true, true, true, true, false, false, false] #[true, true, true, true, true, false, false, true, false] rfl rfl rfl rfl (two_of HT_.out (by kernel_rfl)) (by decide) (by decide) (fun K hK => ?_) (fun K hK => ?_)
        ·skip
         refine goes_ Tryd.func66 (by kernel_rfl) rfl #[.int .i64 a1_1] (by rfl) rfl rfl (by (try simp only [List.map_toArray, List.map_cons, List.map_nil]); first | done | rfl | (simp only [List.length_drop, List.length_take]; rfl)) ?_
         with_reducible refine (rf17_big.calls a1_1 t494 t495 t496 t497 t498 t499 _ A20.out).mono ?_
         rintro e w52 ⟨rfl, hb⟩
         refine ⟨_, rfl, ?_⟩
         have n0_ := Aside0.mk (blk_below (bk BK483.out) hb)
         have n1_ := Aside0.mk (blk_below (bk BK484.out) hb)
         have n2_ := Aside0.mk (blk_below (bk BK485.out) hb)
         have n3_ := Aside0.mk (below_step (by repeat (first | (with_reducible first | exact HB.out | apply below_alloc | apply pw_below_drewN | apply below_drew1 | refine below_set ?_ (Aside0.out (by assumption))) | exact HB.out)) hb)
         clear BK483
         clear BK484
         clear BK485
         clear HB
         have BK483 := n0_
         have BK484 := n1_
         have BK485 := n2_
         have HB := n3_
         clear n0_ n1_ n2_ n3_
         (try clear hb)
         (try clear hb2)
         (try clear hk)
         (try clear hi)
         refine hK.out _ _ ⟨(blk_cell BK483.out 0).trans rfl, (blk_cell BK483.out 1).trans rfl, (blk_cell BK483.out 2).trans rfl, (blk_cell BK484.out 0).trans rfl, (blk_cell BK484.out 1).trans rfl, (blk_cell BK484.out 2).trans rfl⟩ (fun hHeld => ?_)
         clear hK K
         refine norm_ (a' := ?_) ?_ ?_
         rotate_left
         ·show Act.put _ (some 29) _ = _
          simp only [Act.put, List.setIfInBounds_toArray, List.set_cons_zero, List.set_cons_succ, i64_w, i32_w]
          rfl
         refine two_ (i := 6) (j := 7) (Ni := some 30) (Nj := some 8) #[true, true, true, true, true, true, true, false, false] #[true, true, true, true, true, true, false, true, false] rfl rfl rfl rfl (two_of HT_.out (by kernel_rfl)) (by decide) (by decide) (fun K hK => ?_) (fun K hK => ?_)
         ·skip
          refine goes_ Tryd.func67 (by kernel_rfl) rfl #[.agg #[.bool t488, .int .u64 t489, .int .u64 t490, .int .u64 t491, .int .u64 t492, .int .u64 t493], .agg #[.bool t494, .int .u64 t495, .int .u64 t496, .int .u64 t497, .int .u64 t498, .int .u64 t499]] (by rfl) rfl rfl (by (try simp only [List.map_toArray, List.map_cons, List.map_nil]); first | done | rfl | (simp only [List.length_drop, List.length_take]; rfl)) ?_
          with_reducible refine (rf17_times.calls t488 t489 t490 t491 t492 t493 t494 t495 t496 t497 t498 t499 t500 t501 t502 t503 t504 t505 _ A21.out).mono ?_
          rintro e w53 ⟨rfl, hb⟩
          refine ⟨_, rfl, ?_⟩
          have n0_ := Aside0.mk (blk_below (bk BK483.out) hb)
          have n1_ := Aside0.mk (blk_below (bk BK484.out) hb)
          have n2_ := Aside0.mk (blk_below (bk BK485.out) hb)
          have n3_ := Aside0.mk (below_step (by repeat (first | (with_reducible first | exact HB.out | apply below_alloc | apply pw_below_drewN | apply below_drew1 | refine below_set ?_ (Aside0.out (by assumption))) | exact HB.out)) hb)
          clear BK483
          clear BK484
          clear BK485
          clear HB
          have BK483 := n0_
          have BK484 := n1_
          have BK485 := n2_
          have HB := n3_
          clear n0_ n1_ n2_ n3_
          (try clear hb)
          (try clear hb2)
          (try clear hk)
          (try clear hi)
          refine hK.out _ _ ⟨(blk_cell BK483.out 0).trans rfl, (blk_cell BK483.out 1).trans rfl, (blk_cell BK483.out 2).trans rfl, (blk_cell BK484.out 0).trans rfl, (blk_cell BK484.out 1).trans rfl, (blk_cell BK484.out 2).trans rfl⟩ (fun hHeld => ?_)
          clear hK K
          refine norm_ (a' := ?_) ?_ ?_
          rotate_left
          ·show Act.put _ (some 30) _ = _
           simp only [Act.put, List.setIfInBounds_toArray, List.set_cons_zero, List.set_cons_succ, i64_w, i32_w]
           rfl
          refine one_ (i := 7) (N := some 8) #[true, true, true, true, true, true, true, true, false] rfl rfl (one_of HT_.out (by kernel_rfl)) (by decide) (fun K hK => ?_)
          refine box_step ?hg (N := 8) ?hd (cs := #[.bool false, .int .u64 0, .int .u64 0, .int .u64 0, .int .u64 0, .int .u64 0]) (t := 56) ?hr ?_; (case hd => rfl); (case hg => rfl); (case hr => first | (go_simp; done) | (go_simp; rfl))
          intro gb506 hg w54 hbox hb
          have n0_ := Aside0.mk (blk_below (bk BK483.out) hb)
          have n1_ := Aside0.mk (blk_below (bk BK484.out) hb)
          have n2_ := Aside0.mk (blk_below (bk BK485.out) hb)
          have n3_ := Aside0.mk (below_step (by repeat (first | (with_reducible first | exact HB.out | apply below_alloc | apply pw_below_drewN | apply below_drew1 | refine below_set ?_ (Aside0.out (by assumption))) | exact HB.out)) hb)
          have n4_ := Aside0.mk (hbox)
          have n5_ := Aside0.mk ((by rw [hg]; exact (below_size (by repeat (first | (with_reducible first | exact HB.out | apply below_alloc | apply pw_below_drewN | apply below_drew1 | refine below_set ?_ (Aside0.out (by assumption))) | exact HB.out))) : w.heap.size ≤ gb506))
          have n6_ := Aside0.mk ((by rw [hg]; exact (below_size (by repeat (first | (with_reducible first | exact HB.out | apply below_alloc | apply pw_below_drewN | apply below_drew1 | refine below_set ?_ (Aside0.out (by assumption))) | exact HB.out))) : w.heap.size ≤ gb506))
          have n7_ := Aside0.mk ((by rw [hg]; exact Nat.ne_of_lt (blk_lt (g := gb483) (o := .cells #[.int .u8 a0_0, .int .i64 a0_1, .string a0_2] 25 (0, 0)) (bk BK483.out)) : gb483 ≠ gb506))
          have n8_ := Aside0.mk ((by rw [hg]; exact Nat.ne_of_gt (blk_lt (g := gb483) (o := .cells #[.int .u8 a0_0, .int .i64 a0_1, .string a0_2] 25 (0, 0)) (bk BK483.out)) : gb506 ≠ gb483))
          have n9_ := Aside0.mk ((by rw [hg]; exact Nat.ne_of_lt (blk_lt (g := gb484) (o := .cells #[.int .u8 a1_0, .int .i64 a1_1, .string a1_2] 25 (0, 0)) (bk BK484.out)) : gb484 ≠ gb506))
          have n10_ := Aside0.mk ((by rw [hg]; exact Nat.ne_of_gt (blk_lt (g := gb484) (o := .cells #[.int .u8 a1_0, .int .i64 a1_1, .string a1_2] 25 (0, 0)) (bk BK484.out)) : gb506 ≠ gb484))
          have n11_ := Aside0.mk ((by rw [hg]; exact Nat.ne_of_lt (blk_lt (g := gb485) (o := .cells #[.int .u8 0, .int .i64 0, .string (⟨#[]⟩ : ByteArray)] 25 (0, 0)) (bk BK485.out)) : gb485 ≠ gb506))
          have n12_ := Aside0.mk ((by rw [hg]; exact Nat.ne_of_gt (blk_lt (g := gb485) (o := .cells #[.int .u8 0, .int .i64 0, .string (⟨#[]⟩ : ByteArray)] 25 (0, 0)) (bk BK485.out)) : gb506 ≠ gb485))
          clear BK483
          clear BK484
          clear BK485
          clear HB
          have BK483 := n0_
          have BK484 := n1_
          have BK485 := n2_
          have HB := n3_
          have BK506 := n4_
          have GW506 := n5_
          have GE506 := n6_
          have NB483_506 := n7_
          have NB506_483 := n8_
          have NB484_506 := n9_
          have NB506_484 := n10_
          have NB485_506 := n11_
          have NB506_485 := n12_
          clear n0_ n1_ n2_ n3_ n4_ n5_ n6_ n7_ n8_ n9_ n10_ n11_ n12_
          clear hb hbox hg
          refine hK.out _ _ ⟨(blk_cell BK483.out 0).trans rfl, (blk_cell BK483.out 1).trans rfl, (blk_cell BK483.out 2).trans rfl, (blk_cell BK484.out 0).trans rfl, (blk_cell BK484.out 1).trans rfl, (blk_cell BK484.out 2).trans rfl⟩ (fun hHeld => ?_)
          clear hK K
          refine norm_ (a' := ?_) ?_ ?_
          rotate_left
          ·show Act.put _ (some 8) _ = _
           simp only [Act.put, List.setIfInBounds_toArray, List.set_cons_zero, List.set_cons_succ, i64_w, i32_w]
           rfl
          exact norm_ (by simp only [putAll, Act.put, List.setIfInBounds_toArray, List.set_cons_zero, List.set_cons_succ]) (hCont (gb506) _ ⟨hHeld, (bk BK483.out), (bk BK484.out), (bk BK485.out), (bk BK506.out), GW506.out, GE506.out, NB483_506.out, NB506_483.out, NB484_506.out, NB506_484.out, NB485_506.out, NB506_485.out, (by repeat (first | (with_reducible first | exact HB.out | apply below_alloc | apply pw_below_drewN | apply below_drew1 | refine below_set ?_ (Aside0.out (by assumption))) | exact HB.out))⟩)
         ·skip
          refine box_step ?hg (N := 8) ?hd (cs := #[.bool false, .int .u64 0, .int .u64 0, .int .u64 0, .int .u64 0, .int .u64 0]) (t := 56) ?hr ?_; (case hd => rfl); (case hg => rfl); (case hr => first | (go_simp; done) | (go_simp; rfl))
          intro gb506 hg w53 hbox hb
          have n0_ := Aside0.mk (blk_below (bk BK483.out) hb)
          have n1_ := Aside0.mk (blk_below (bk BK484.out) hb)
          have n2_ := Aside0.mk (blk_below (bk BK485.out) hb)
          have n3_ := Aside0.mk (below_step (by repeat (first | (with_reducible first | exact HB.out | apply below_alloc | apply pw_below_drewN | apply below_drew1 | refine below_set ?_ (Aside0.out (by assumption))) | exact HB.out)) hb)
          have n4_ := Aside0.mk (hbox)
          have n5_ := Aside0.mk ((by rw [hg]; exact (below_size (by repeat (first | (with_reducible first | exact HB.out | apply below_alloc | apply pw_below_drewN | apply below_drew1 | refine below_set ?_ (Aside0.out (by assumption))) | exact HB.out))) : w.heap.size ≤ gb506))
          have n6_ := Aside0.mk ((by rw [hg]; exact (below_size (by repeat (first | (with_reducible first | exact HB.out | apply below_alloc | apply pw_below_drewN | apply below_drew1 | refine below_set ?_ (Aside0.out (by assumption))) | exact HB.out))) : w.heap.size ≤ gb506))
          have n7_ := Aside0.mk ((by rw [hg]; exact Nat.ne_of_lt (blk_lt (g := gb483) (o := .cells #[.int .u8 a0_0, .int .i64 a0_1, .string a0_2] 25 (0, 0)) (bk BK483.out)) : gb483 ≠ gb506))
          have n8_ := Aside0.mk ((by rw [hg]; exact Nat.ne_of_gt (blk_lt (g := gb483) (o := .cells #[.int .u8 a0_0, .int .i64 a0_1, .string a0_2] 25 (0, 0)) (bk BK483.out)) : gb506 ≠ gb483))
          have n9_ := Aside0.mk ((by rw [hg]; exact Nat.ne_of_lt (blk_lt (g := gb484) (o := .cells #[.int .u8 a1_0, .int .i64 a1_1, .string a1_2] 25 (0, 0)) (bk BK484.out)) : gb484 ≠ gb506))
          have n10_ := Aside0.mk ((by rw [hg]; exact Nat.ne_of_gt (blk_lt (g := gb484) (o := .cells #[.int .u8 a1_0, .int .i64 a1_1, .string a1_2] 25 (0, 0)) (bk BK484.out)) : gb506 ≠ gb484))
          have n11_ := Aside0.mk ((by rw [hg]; exact Nat.ne_of_lt (blk_lt (g := gb485) (o := .cells #[.int .u8 0, .int .i64 0, .string (⟨#[]⟩ : ByteArray)] 25 (0, 0)) (bk BK485.out)) : gb485 ≠ gb506))
          have n12_ := Aside0.mk ((by rw [hg]; exact Nat.ne_of_gt (blk_lt (g := gb485) (o := .cells #[.int .u8 0, .int .i64 0, .string (⟨#[]⟩ : ByteArray)] 25 (0, 0)) (bk BK485.out)) : gb506 ≠ gb485))
          clear BK483
          clear BK484
          clear BK485
          clear HB
          have BK483 := n0_
          have BK484 := n1_
          have BK485 := n2_
          have HB := n3_
          have BK506 := n4_
          have GW506 := n5_
          have GE506 := n6_
          have NB483_506 := n7_
          have NB506_483 := n8_
          have NB484_506 := n9_
          have NB506_484 := n10_
          have NB485_506 := n11_
          have NB506_485 := n12_
          clear n0_ n1_ n2_ n3_ n4_ n5_ n6_ n7_ n8_ n9_ n10_ n11_ n12_
          clear hb hbox hg
          refine hK.out _ _ ⟨(blk_cell BK483.out 0).trans rfl, (blk_cell BK483.out 1).trans rfl, (blk_cell BK483.out 2).trans rfl, (blk_cell BK484.out 0).trans rfl, (blk_cell BK484.out 1).trans rfl, (blk_cell BK484.out 2).trans rfl⟩ (fun hHeld => ?_)
          clear hK K
          refine norm_ (a' := ?_) ?_ ?_
          rotate_left
          ·show Act.put _ (some 8) _ = _
           simp only [Act.put, List.setIfInBounds_toArray, List.set_cons_zero, List.set_cons_succ, i64_w, i32_w]
           rfl
          refine one_ (i := 6) (N := some 30) #[true, true, true, true, true, true, true, true, false] rfl rfl (one_of HT_.out (by kernel_rfl)) (by decide) (fun K hK => ?_)
          refine goes_ Tryd.func67 (by kernel_rfl) rfl #[.agg #[.bool t488, .int .u64 t489, .int .u64 t490, .int .u64 t491, .int .u64 t492, .int .u64 t493], .agg #[.bool t494, .int .u64 t495, .int .u64 t496, .int .u64 t497, .int .u64 t498, .int .u64 t499]] (by rfl) rfl rfl (by (try simp only [List.map_toArray, List.map_cons, List.map_nil]); first | done | rfl | (simp only [List.length_drop, List.length_take]; rfl)) ?_
          with_reducible refine (rf17_times.calls t488 t489 t490 t491 t492 t493 t494 t495 t496 t497 t498 t499 t500 t501 t502 t503 t504 t505 _ A21.out).mono ?_
          rintro e w54 ⟨rfl, hb⟩
          refine ⟨_, rfl, ?_⟩
          have n0_ := Aside0.mk (blk_below (bk BK483.out) hb)
          have n1_ := Aside0.mk (blk_below (bk BK484.out) hb)
          have n2_ := Aside0.mk (blk_below (bk BK485.out) hb)
          have n3_ := Aside0.mk (blk_below (bk BK506.out) hb)
          have n4_ := Aside0.mk (below_step (by repeat (first | (with_reducible first | exact HB.out | apply below_alloc | apply pw_below_drewN | apply below_drew1 | refine below_set ?_ (Aside0.out (by assumption))) | exact HB.out)) hb)
          clear BK483
          clear BK484
          clear BK485
          clear BK506
          clear HB
          have BK483 := n0_
          have BK484 := n1_
          have BK485 := n2_
          have BK506 := n3_
          have HB := n4_
          clear n0_ n1_ n2_ n3_ n4_
          (try clear hb)
          (try clear hb2)
          (try clear hk)
          (try clear hi)
          refine hK.out _ _ ⟨(blk_cell BK483.out 0).trans rfl, (blk_cell BK483.out 1).trans rfl, (blk_cell BK483.out 2).trans rfl, (blk_cell BK484.out 0).trans rfl, (blk_cell BK484.out 1).trans rfl, (blk_cell BK484.out 2).trans rfl⟩ (fun hHeld => ?_)
          clear hK K
          refine norm_ (a' := ?_) ?_ ?_
          rotate_left
          ·show Act.put _ (some 30) _ = _
           simp only [Act.put, List.setIfInBounds_toArray, List.set_cons_zero, List.set_cons_succ, i64_w, i32_w]
           rfl
          exact norm_ (by simp only [putAll, Act.put, List.setIfInBounds_toArray, List.set_cons_zero, List.set_cons_succ]) (hCont (gb506) _ ⟨hHeld, (bk BK483.out), (bk BK484.out), (bk BK485.out), (bk BK506.out), GW506.out, GE506.out, NB483_506.out, NB506_483.out, NB484_506.out, NB506_484.out, NB485_506.out, NB506_485.out, (by repeat (first | (with_reducible first | exact HB.out | apply below_alloc | apply pw_below_drewN | apply below_drew1 | refine below_set ?_ (Aside0.out (by assumption))) | exact HB.out))⟩)
        ·skip
         refine box_step ?hg (N := 8) ?hd (cs := #[.bool false, .int .u64 0, .int .u64 0, .int .u64 0, .int .u64 0, .int .u64 0]) (t := 56) ?hr ?_; (case hd => rfl); (case hg => rfl); (case hr => first | (go_simp; done) | (go_simp; rfl))
         intro gb506 hg w52 hbox hb
         have n0_ := Aside0.mk (blk_below (bk BK483.out) hb)
         have n1_ := Aside0.mk (blk_below (bk BK484.out) hb)
         have n2_ := Aside0.mk (blk_below (bk BK485.out) hb)
         have n3_ := Aside0.mk (below_step (by repeat (first | (with_reducible first | exact HB.out | apply below_alloc | apply pw_below_drewN | apply below_drew1 | refine below_set ?_ (Aside0.out (by assumption))) | exact HB.out)) hb)
         have n4_ := Aside0.mk (hbox)
         have n5_ := Aside0.mk ((by rw [hg]; exact (below_size (by repeat (first | (with_reducible first | exact HB.out | apply below_alloc | apply pw_below_drewN | apply below_drew1 | refine below_set ?_ (Aside0.out (by assumption))) | exact HB.out))) : w.heap.size ≤ gb506))
         have n6_ := Aside0.mk ((by rw [hg]; exact (below_size (by repeat (first | (with_reducible first | exact HB.out | apply below_alloc | apply pw_below_drewN | apply below_drew1 | refine below_set ?_ (Aside0.out (by assumption))) | exact HB.out))) : w.heap.size ≤ gb506))
         have n7_ := Aside0.mk ((by rw [hg]; exact Nat.ne_of_lt (blk_lt (g := gb483) (o := .cells #[.int .u8 a0_0, .int .i64 a0_1, .string a0_2] 25 (0, 0)) (bk BK483.out)) : gb483 ≠ gb506))
         have n8_ := Aside0.mk ((by rw [hg]; exact Nat.ne_of_gt (blk_lt (g := gb483) (o := .cells #[.int .u8 a0_0, .int .i64 a0_1, .string a0_2] 25 (0, 0)) (bk BK483.out)) : gb506 ≠ gb483))
         have n9_ := Aside0.mk ((by rw [hg]; exact Nat.ne_of_lt (blk_lt (g := gb484) (o := .cells #[.int .u8 a1_0, .int .i64 a1_1, .string a1_2] 25 (0, 0)) (bk BK484.out)) : gb484 ≠ gb506))
         have n10_ := Aside0.mk ((by rw [hg]; exact Nat.ne_of_gt (blk_lt (g := gb484) (o := .cells #[.int .u8 a1_0, .int .i64 a1_1, .string a1_2] 25 (0, 0)) (bk BK484.out)) : gb506 ≠ gb484))
         have n11_ := Aside0.mk ((by rw [hg]; exact Nat.ne_of_lt (blk_lt (g := gb485) (o := .cells #[.int .u8 0, .int .i64 0, .string (⟨#[]⟩ : ByteArray)] 25 (0, 0)) (bk BK485.out)) : gb485 ≠ gb506))
         have n12_ := Aside0.mk ((by rw [hg]; exact Nat.ne_of_gt (blk_lt (g := gb485) (o := .cells #[.int .u8 0, .int .i64 0, .string (⟨#[]⟩ : ByteArray)] 25 (0, 0)) (bk BK485.out)) : gb506 ≠ gb485))
         clear BK483
         clear BK484
         clear BK485
         clear HB
         have BK483 := n0_
         have BK484 := n1_
         have BK485 := n2_
         have HB := n3_
         have BK506 := n4_
         have GW506 := n5_
         have GE506 := n6_
         have NB483_506 := n7_
         have NB506_483 := n8_
         have NB484_506 := n9_
         have NB506_484 := n10_
         have NB485_506 := n11_
         have NB506_485 := n12_
         clear n0_ n1_ n2_ n3_ n4_ n5_ n6_ n7_ n8_ n9_ n10_ n11_ n12_
         clear hb hbox hg
         refine hK.out _ _ ⟨(blk_cell BK483.out 0).trans rfl, (blk_cell BK483.out 1).trans rfl, (blk_cell BK483.out 2).trans rfl, (blk_cell BK484.out 0).trans rfl, (blk_cell BK484.out 1).trans rfl, (blk_cell BK484.out 2).trans rfl⟩ (fun hHeld => ?_)
         clear hK K
         refine norm_ (a' := ?_) ?_ ?_
         rotate_left
         ·show Act.put _ (some 8) _ = _
          simp only [Act.put, List.setIfInBounds_toArray, List.set_cons_zero, List.set_cons_succ, i64_w, i32_w]
          rfl
         refine one_ (i := 5) (N := some 29) #[true, true, true, true, true, true, false, true, false] rfl rfl (one_of HT_.out (by kernel_rfl)) (by decide) (fun K hK => ?_)
         refine goes_ Tryd.func66 (by kernel_rfl) rfl #[.int .i64 a1_1] (by rfl) rfl rfl (by (try simp only [List.map_toArray, List.map_cons, List.map_nil]); first | done | rfl | (simp only [List.length_drop, List.length_take]; rfl)) ?_
         with_reducible refine (rf17_big.calls a1_1 t494 t495 t496 t497 t498 t499 _ A20.out).mono ?_
         rintro e w53 ⟨rfl, hb⟩
         refine ⟨_, rfl, ?_⟩
         have n0_ := Aside0.mk (blk_below (bk BK483.out) hb)
         have n1_ := Aside0.mk (blk_below (bk BK484.out) hb)
         have n2_ := Aside0.mk (blk_below (bk BK485.out) hb)
         have n3_ := Aside0.mk (blk_below (bk BK506.out) hb)
         have n4_ := Aside0.mk (below_step (by repeat (first | (with_reducible first | exact HB.out | apply below_alloc | apply pw_below_drewN | apply below_drew1 | refine below_set ?_ (Aside0.out (by assumption))) | exact HB.out)) hb)
         clear BK483
         clear BK484
         clear BK485
         clear BK506
         clear HB
         have BK483 := n0_
         have BK484 := n1_
         have BK485 := n2_
         have BK506 := n3_
         have HB := n4_
         clear n0_ n1_ n2_ n3_ n4_
         (try clear hb)
         (try clear hb2)
         (try clear hk)
         (try clear hi)
         refine hK.out _ _ ⟨(blk_cell BK483.out 0).trans rfl, (blk_cell BK483.out 1).trans rfl, (blk_cell BK483.out 2).trans rfl, (blk_cell BK484.out 0).trans rfl, (blk_cell BK484.out 1).trans rfl, (blk_cell BK484.out 2).trans rfl⟩ (fun hHeld => ?_)
         clear hK K
         refine norm_ (a' := ?_) ?_ ?_
         rotate_left
         ·show Act.put _ (some 29) _ = _
          simp only [Act.put, List.setIfInBounds_toArray, List.set_cons_zero, List.set_cons_succ, i64_w, i32_w]
          rfl
         refine one_ (i := 6) (N := some 30) #[true, true, true, true, true, true, true, true, false] rfl rfl (one_of HT_.out (by kernel_rfl)) (by decide) (fun K hK => ?_)
         refine goes_ Tryd.func67 (by kernel_rfl) rfl #[.agg #[.bool t488, .int .u64 t489, .int .u64 t490, .int .u64 t491, .int .u64 t492, .int .u64 t493], .agg #[.bool t494, .int .u64 t495, .int .u64 t496, .int .u64 t497, .int .u64 t498, .int .u64 t499]] (by rfl) rfl rfl (by (try simp only [List.map_toArray, List.map_cons, List.map_nil]); first | done | rfl | (simp only [List.length_drop, List.length_take]; rfl)) ?_
         with_reducible refine (rf17_times.calls t488 t489 t490 t491 t492 t493 t494 t495 t496 t497 t498 t499 t500 t501 t502 t503 t504 t505 _ A21.out).mono ?_
         rintro e w54 ⟨rfl, hb⟩
         refine ⟨_, rfl, ?_⟩
         have n0_ := Aside0.mk (blk_below (bk BK483.out) hb)
         have n1_ := Aside0.mk (blk_below (bk BK484.out) hb)
         have n2_ := Aside0.mk (blk_below (bk BK485.out) hb)
         have n3_ := Aside0.mk (blk_below (bk BK506.out) hb)
         have n4_ := Aside0.mk (below_step (by repeat (first | (with_reducible first | exact HB.out | apply below_alloc | apply pw_below_drewN | apply below_drew1 | refine below_set ?_ (Aside0.out (by assumption))) | exact HB.out)) hb)
         clear BK483
         clear BK484
         clear BK485
         clear BK506
         clear HB
         have BK483 := n0_
         have BK484 := n1_
         have BK485 := n2_
         have BK506 := n3_
         have HB := n4_
         clear n0_ n1_ n2_ n3_ n4_
         (try clear hb)
         (try clear hb2)
         (try clear hk)
         (try clear hi)
         refine hK.out _ _ ⟨(blk_cell BK483.out 0).trans rfl, (blk_cell BK483.out 1).trans rfl, (blk_cell BK483.out 2).trans rfl, (blk_cell BK484.out 0).trans rfl, (blk_cell BK484.out 1).trans rfl, (blk_cell BK484.out 2).trans rfl⟩ (fun hHeld => ?_)
         clear hK K
         refine norm_ (a' := ?_) ?_ ?_
         rotate_left
         ·show Act.put _ (some 30) _ = _
          simp only [Act.put, List.setIfInBounds_toArray, List.set_cons_zero, List.set_cons_succ, i64_w, i32_w]
          rfl
         exact norm_ (by simp only [putAll, Act.put, List.setIfInBounds_toArray, List.set_cons_zero, List.set_cons_succ]) (hCont (gb506) _ ⟨hHeld, (bk BK483.out), (bk BK484.out), (bk BK485.out), (bk BK506.out), GW506.out, GE506.out, NB483_506.out, NB506_483.out, NB484_506.out, NB506_484.out, NB485_506.out, NB506_485.out, (by repeat (first | (with_reducible first | exact HB.out | apply below_alloc | apply pw_below_drewN | apply below_drew1 | refine below_set ?_ (Aside0.out (by assumption))) | exact HB.out))⟩)
       ·skip
        refine box_step ?hg (N := 8) ?hd (cs := #[.bool false, .int .u64 0, .int .u64 0, .int .u64 0, .int .u64 0, .int .u64 0]) (t := 56) ?hr ?_; (case hd => rfl); (case hg => rfl); (case hr => first | (go_simp; done) | (go_simp; rfl))
        intro gb506 hg w51 hbox hb
        have n0_ := Aside0.mk (blk_below (bk BK483.out) hb)
        have n1_ := Aside0.mk (blk_below (bk BK484.out) hb)
        have n2_ := Aside0.mk (blk_below (bk BK485.out) hb)
        have n3_ := Aside0.mk (below_step (by repeat (first | (with_reducible first | exact HB.out | apply below_alloc | apply pw_below_drewN | apply below_drew1 | refine below_set ?_ (Aside0.out (by assumption))) | exact HB.out)) hb)
        have n4_ := Aside0.mk (hbox)
        have n5_ := Aside0.mk ((by rw [hg]; exact (below_size (by repeat (first | (with_reducible first | exact HB.out | apply below_alloc | apply pw_below_drewN | apply below_drew1 | refine below_set ?_ (Aside0.out (by assumption))) | exact HB.out))) : w.heap.size ≤ gb506))
        have n6_ := Aside0.mk ((by rw [hg]; exact (below_size (by repeat (first | (with_reducible first | exact HB.out | apply below_alloc | apply pw_below_drewN | apply below_drew1 | refine below_set ?_ (Aside0.out (by assumption))) | exact HB.out))) : w.heap.size ≤ gb506))
        have n7_ := Aside0.mk ((by rw [hg]; exact Nat.ne_of_lt (blk_lt (g := gb483) (o := .cells #[.int .u8 a0_0, .int .i64 a0_1, .string a0_2] 25 (0, 0)) (bk BK483.out)) : gb483 ≠ gb506))
        have n8_ := Aside0.mk ((by rw [hg]; exact Nat.ne_of_gt (blk_lt (g := gb483) (o := .cells #[.int .u8 a0_0, .int .i64 a0_1, .string a0_2] 25 (0, 0)) (bk BK483.out)) : gb506 ≠ gb483))
        have n9_ := Aside0.mk ((by rw [hg]; exact Nat.ne_of_lt (blk_lt (g := gb484) (o := .cells #[.int .u8 a1_0, .int .i64 a1_1, .string a1_2] 25 (0, 0)) (bk BK484.out)) : gb484 ≠ gb506))
        have n10_ := Aside0.mk ((by rw [hg]; exact Nat.ne_of_gt (blk_lt (g := gb484) (o := .cells #[.int .u8 a1_0, .int .i64 a1_1, .string a1_2] 25 (0, 0)) (bk BK484.out)) : gb506 ≠ gb484))
        have n11_ := Aside0.mk ((by rw [hg]; exact Nat.ne_of_lt (blk_lt (g := gb485) (o := .cells #[.int .u8 0, .int .i64 0, .string (⟨#[]⟩ : ByteArray)] 25 (0, 0)) (bk BK485.out)) : gb485 ≠ gb506))
        have n12_ := Aside0.mk ((by rw [hg]; exact Nat.ne_of_gt (blk_lt (g := gb485) (o := .cells #[.int .u8 0, .int .i64 0, .string (⟨#[]⟩ : ByteArray)] 25 (0, 0)) (bk BK485.out)) : gb506 ≠ gb485))
        clear BK483
        clear BK484
        clear BK485
        clear HB
        have BK483 := n0_
        have BK484 := n1_
        have BK485 := n2_
        have HB := n3_
        have BK506 := n4_
        have GW506 := n5_
        have GE506 := n6_
        have NB483_506 := n7_
        have NB506_483 := n8_
        have NB484_506 := n9_
        have NB506_484 := n10_
        have NB485_506 := n11_
        have NB506_485 := n12_
        clear n0_ n1_ n2_ n3_ n4_ n5_ n6_ n7_ n8_ n9_ n10_ n11_ n12_
        clear hb hbox hg
        refine hK.out _ _ ⟨(blk_cell BK483.out 0).trans rfl, (blk_cell BK483.out 1).trans rfl, (blk_cell BK483.out 2).trans rfl, (blk_cell BK484.out 0).trans rfl, (blk_cell BK484.out 1).trans rfl, (blk_cell BK484.out 2).trans rfl⟩ (fun hHeld => ?_)
        clear hK K
        refine norm_ (a' := ?_) ?_ ?_
        rotate_left
        ·show Act.put _ (some 8) _ = _
         simp only [Act.put, List.setIfInBounds_toArray, List.set_cons_zero, List.set_cons_succ, i64_w, i32_w]
         rfl
        refine one_ (i := 2) (N := some 26) #[true, true, true, true, true, false, false, true, false] rfl rfl (one_of HT_.out (by kernel_rfl)) (by decide) (fun K hK => ?_)
        refine goes_ Tryd.func66 (by kernel_rfl) rfl #[.int .i64 a0_1] (by rfl) rfl rfl (by (try simp only [List.map_toArray, List.map_cons, List.map_nil]); first | done | rfl | (simp only [List.length_drop, List.length_take]; rfl)) ?_
        with_reducible refine (rf17_big.calls a0_1 t488 t489 t490 t491 t492 t493 _ A19.out).mono ?_
        rintro e w52 ⟨rfl, hb⟩
        refine ⟨_, rfl, ?_⟩
        have n0_ := Aside0.mk (blk_below (bk BK483.out) hb)
        have n1_ := Aside0.mk (blk_below (bk BK484.out) hb)
        have n2_ := Aside0.mk (blk_below (bk BK485.out) hb)
        have n3_ := Aside0.mk (blk_below (bk BK506.out) hb)
        have n4_ := Aside0.mk (below_step (by repeat (first | (with_reducible first | exact HB.out | apply below_alloc | apply pw_below_drewN | apply below_drew1 | refine below_set ?_ (Aside0.out (by assumption))) | exact HB.out)) hb)
        clear BK483
        clear BK484
        clear BK485
        clear BK506
        clear HB
        have BK483 := n0_
        have BK484 := n1_
        have BK485 := n2_
        have BK506 := n3_
        have HB := n4_
        clear n0_ n1_ n2_ n3_ n4_
        (try clear hb)
        (try clear hb2)
        (try clear hk)
        (try clear hi)
        refine hK.out _ _ ⟨(blk_cell BK483.out 0).trans rfl, (blk_cell BK483.out 1).trans rfl, (blk_cell BK483.out 2).trans rfl, (blk_cell BK484.out 0).trans rfl, (blk_cell BK484.out 1).trans rfl, (blk_cell BK484.out 2).trans rfl⟩ (fun hHeld => ?_)
        clear hK K
        refine norm_ (a' := ?_) ?_ ?_
        rotate_left
        ·show Act.put _ (some 26) _ = _
         simp only [Act.put, List.setIfInBounds_toArray, List.set_cons_zero, List.set_cons_succ, i64_w, i32_w]
         rfl
        refine one_ (i := 5) (N := some 29) #[true, true, true, true, true, true, false, true, false] rfl rfl (one_of HT_.out (by kernel_rfl)) (by decide) (fun K hK => ?_)
        refine goes_ Tryd.func66 (by kernel_rfl) rfl #[.int .i64 a1_1] (by rfl) rfl rfl (by (try simp only [List.map_toArray, List.map_cons, List.map_nil]); first | done | rfl | (simp only [List.length_drop, List.length_take]; rfl)) ?_
        with_reducible refine (rf17_big.calls a1_1 t494 t495 t496 t497 t498 t499 _ A20.out).mono ?_
        rintro e w53 ⟨rfl, hb⟩
        refine ⟨_, rfl, ?_⟩
        have n0_ := Aside0.mk (blk_below (bk BK483.out) hb)
        have n1_ := Aside0.mk (blk_below (bk BK484.out) hb)
        have n2_ := Aside0.mk (blk_below (bk BK485.out) hb)
        have n3_ := Aside0.mk (blk_below (bk BK506.out) hb)
        have n4_ := Aside0.mk (below_step (by repeat (first | (with_reducible first | exact HB.out | apply below_alloc | apply pw_below_drewN | apply below_drew1 | refine below_set ?_ (Aside0.out (by assumption))) | exact HB.out)) hb)
        clear BK483
        clear BK484
        clear BK485
        clear BK506
        clear HB
        have BK483 := n0_
        have BK484 := n1_
        have BK485 := n2_
        have BK506 := n3_
        have HB := n4_
        clear n0_ n1_ n2_ n3_ n4_
        (try clear hb)
        (try clear hb2)
        (try clear hk)
        (try clear hi)
        refine hK.out _ _ ⟨(blk_cell BK483.out 0).trans rfl, (blk_cell BK483.out 1).trans rfl, (blk_cell BK483.out 2).trans rfl, (blk_cell BK484.out 0).trans rfl, (blk_cell BK484.out 1).trans rfl, (blk_cell BK484.out 2).trans rfl⟩ (fun hHeld => ?_)
        clear hK K
        refine norm_ (a' := ?_) ?_ ?_
        rotate_left
        ·show Act.put _ (some 29) _ = _
         simp only [Act.put, List.setIfInBounds_toArray, List.set_cons_zero, List.set_cons_succ, i64_w, i32_w]
         rfl
        refine one_ (i := 6) (N := some 30) #[true, true, true, true, true, true, true, true, false] rfl rfl (one_of HT_.out (by kernel_rfl)) (by decide) (fun K hK => ?_)
        refine goes_ Tryd.func67 (by kernel_rfl) rfl #[.agg #[.bool t488, .int .u64 t489, .int .u64 t490, .int .u64 t491, .int .u64 t492, .int .u64 t493], .agg #[.bool t494, .int .u64 t495, .int .u64 t496, .int .u64 t497, .int .u64 t498, .int .u64 t499]] (by rfl) rfl rfl (by (try simp only [List.map_toArray, List.map_cons, List.map_nil]); first | done | rfl | (simp only [List.length_drop, List.length_take]; rfl)) ?_
        with_reducible refine (rf17_times.calls t488 t489 t490 t491 t492 t493 t494 t495 t496 t497 t498 t499 t500 t501 t502 t503 t504 t505 _ A21.out).mono ?_
        rintro e w54 ⟨rfl, hb⟩
        refine ⟨_, rfl, ?_⟩
        have n0_ := Aside0.mk (blk_below (bk BK483.out) hb)
        have n1_ := Aside0.mk (blk_below (bk BK484.out) hb)
        have n2_ := Aside0.mk (blk_below (bk BK485.out) hb)
        have n3_ := Aside0.mk (blk_below (bk BK506.out) hb)
        have n4_ := Aside0.mk (below_step (by repeat (first | (with_reducible first | exact HB.out | apply below_alloc | apply pw_below_drewN | apply below_drew1 | refine below_set ?_ (Aside0.out (by assumption))) | exact HB.out)) hb)
        clear BK483
        clear BK484
        clear BK485
        clear BK506
        clear HB
        have BK483 := n0_
        have BK484 := n1_
        have BK485 := n2_
        have BK506 := n3_
        have HB := n4_
        clear n0_ n1_ n2_ n3_ n4_
        (try clear hb)
        (try clear hb2)
        (try clear hk)
        (try clear hi)
        refine hK.out _ _ ⟨(blk_cell BK483.out 0).trans rfl, (blk_cell BK483.out 1).trans rfl, (blk_cell BK483.out 2).trans rfl, (blk_cell BK484.out 0).trans rfl, (blk_cell BK484.out 1).trans rfl, (blk_cell BK484.out 2).trans rfl⟩ (fun hHeld => ?_)
        clear hK K
        refine norm_ (a' := ?_) ?_ ?_
        rotate_left
        ·show Act.put _ (some 30) _ = _
         simp only [Act.put, List.setIfInBounds_toArray, List.set_cons_zero, List.set_cons_succ, i64_w, i32_w]
         rfl
        exact norm_ (by simp only [putAll, Act.put, List.setIfInBounds_toArray, List.set_cons_zero, List.set_cons_succ]) (hCont (gb506) _ ⟨hHeld, (bk BK483.out), (bk BK484.out), (bk BK485.out), (bk BK506.out), GW506.out, GE506.out, NB483_506.out, NB506_483.out, NB484_506.out, NB506_484.out, NB485_506.out, NB506_485.out, (by repeat (first | (with_reducible first | exact HB.out | apply below_alloc | apply pw_below_drewN | apply below_drew1 | refine below_set ?_ (Aside0.out (by assumption))) | exact HB.out))⟩)
      rintro gb506 w55 ⟨hS_, h0_, h1_, h2_, h3_, h4_, h5_, h6_, h7_, h8_, h9_, h10_, h11_, h12_⟩
      have n0_ : Aside0 (w55.heap[gb483]? = some (.cells #[.int .u8 a0_0, .int .i64 a0_1, .string a0_2] 25 (0, 0))) := ⟨h0_⟩
      have n1_ : Aside0 (w55.heap[gb484]? = some (.cells #[.int .u8 a1_0, .int .i64 a1_1, .string a1_2] 25 (0, 0))) := ⟨h1_⟩
      have n2_ : Aside0 (w55.heap[gb485]? = some (.cells #[.int .u8 0, .int .i64 0, .string (⟨#[]⟩ : ByteArray)] 25 (0, 0))) := ⟨h2_⟩
      have n3_ : Aside0 (w55.heap[gb506]? = some (.cells #[.bool false, .int .u64 0, .int .u64 0, .int .u64 0, .int .u64 0, .int .u64 0] 56 (0, 0))) := ⟨h3_⟩
      have n4_ : Aside0 (w.heap.size ≤ gb506) := ⟨h4_⟩
      have n5_ : Aside0 (w.heap.size ≤ gb506) := ⟨h5_⟩
      have n6_ : Aside0 (gb483 ≠ gb506) := ⟨h6_⟩
      have n7_ : Aside0 (gb506 ≠ gb483) := ⟨h7_⟩
      have n8_ : Aside0 (gb484 ≠ gb506) := ⟨h8_⟩
      have n9_ : Aside0 (gb506 ≠ gb484) := ⟨h9_⟩
      have n10_ : Aside0 (gb485 ≠ gb506) := ⟨h10_⟩
      have n11_ : Aside0 (gb506 ≠ gb485) := ⟨h11_⟩
      have n12_ : Aside0 (Below w.heap.size w w55) := ⟨h12_⟩
      clear BK483
      clear BK484
      clear BK485
      clear HB
      clear h0_ h1_ h2_ h3_ h4_ h5_ h6_ h7_ h8_ h9_ h10_ h11_ h12_
      have BK483 := n0_
      have BK484 := n1_
      have BK485 := n2_
      have BK506 := n3_
      have GW506 := n4_
      have GE506 := n5_
      have NB483_506 := n6_
      have NB506_483 := n7_
      have NB484_506 := n8_
      have NB506_484 := n9_
      have NB485_506 := n10_
      have NB506_485 := n11_
      have HB := n12_
      clear n0_ n1_ n2_ n3_ n4_ n5_ n6_ n7_ n8_ n9_ n10_ n11_ n12_
      have hHeld : w55.cell? ⟨gb483, 0, none⟩ = some (.int .u8 a0_0) ∧ w55.cell? ⟨gb483, 1, none⟩ = some (.int .i64 a0_1) ∧ w55.cell? ⟨gb483, 2, none⟩ = some (.string a0_2) ∧ w55.cell? ⟨gb484, 0, none⟩ = some (.int .u8 a1_0) ∧ w55.cell? ⟨gb484, 1, none⟩ = some (.int .i64 a1_1) ∧ w55.cell? ⟨gb484, 2, none⟩ = some (.string a1_2) := hS_
      refine norm_ (a' := ?_) ?_ ?_
      rotate_left
      ·simp only [putAll, Act.put, List.setIfInBounds_toArray, List.set_cons_zero, List.set_cons_succ]
       rfl
      refine one_ (i := 8) (N := none) #[true, true, true, true, true, true, true, true, true] rfl rfl (one_of HT_.out (by kernel_rfl)) (by decide) (fun K hK => ?_)
      have hs56 : w55.cell? ⟨gb506, 0, none⟩ = some (.bool false) := (blk_cell BK506.out 0).trans rfl
      have hfs56 := blk_frozen BK506.out 0
      have hns56_0 := NB483_506.out
      have hns56_1 := NB484_506.out
      have hns56_2 := NB485_506.out
      have hms56_0 := NB506_483.out
      have hms56_1 := NB506_484.out
      have hms56_2 := NB506_485.out
      have hs57 : w55.cell? ⟨gb506, 1, none⟩ = some (.int .u64 0) := (blk_cell BK506.out 1).trans rfl
      have hfs57 := blk_frozen BK506.out 1
      have hns57_0 := NB483_506.out
      have hns57_1 := NB484_506.out
      have hns57_2 := NB485_506.out
      have hms57_0 := NB506_483.out
      have hms57_1 := NB506_484.out
      have hms57_2 := NB506_485.out
      have hs58 : w55.cell? ⟨gb506, 2, none⟩ = some (.int .u64 0) := (blk_cell BK506.out 2).trans rfl
      have hfs58 := blk_frozen BK506.out 2
      have hns58_0 := NB483_506.out
      have hns58_1 := NB484_506.out
      have hns58_2 := NB485_506.out
      have hms58_0 := NB506_483.out
      have hms58_1 := NB506_484.out
      have hms58_2 := NB506_485.out
      have hs59 : w55.cell? ⟨gb506, 3, none⟩ = some (.int .u64 0) := (blk_cell BK506.out 3).trans rfl
      have hfs59 := blk_frozen BK506.out 3
      have hns59_0 := NB483_506.out
      have hns59_1 := NB484_506.out
      have hns59_2 := NB485_506.out
      have hms59_0 := NB506_483.out
      have hms59_1 := NB506_484.out
      have hms59_2 := NB506_485.out
      have hs60 : w55.cell? ⟨gb506, 4, none⟩ = some (.int .u64 0) := (blk_cell BK506.out 4).trans rfl
      have hfs60 := blk_frozen BK506.out 4
      have hns60_0 := NB483_506.out
      have hns60_1 := NB484_506.out
      have hns60_2 := NB485_506.out
      have hms60_0 := NB506_483.out
      have hms60_1 := NB506_484.out
      have hms60_2 := NB506_485.out
      have hs61 : w55.cell? ⟨gb506, 5, none⟩ = some (.int .u64 0) := (blk_cell BK506.out 5).trans rfl
      have hfs61 := blk_frozen BK506.out 5
      have hns61_0 := NB483_506.out
      have hns61_1 := NB484_506.out
      have hns61_2 := NB485_506.out
      have hms61_0 := NB506_483.out
      have hms61_1 := NB506_484.out
      have hms61_2 := NB506_485.out
      refine skip_ (w1 := ?_) (by rfl) rfl ?_ ?_
      rotate_left
      ·go_simp
       rfl
      refine hK.out _ _ ⟨((cell_far (p := ⟨gb506, _, none⟩) NB483_506.out _).trans (((cell_far (p := ⟨gb506, _, none⟩) NB483_506.out _).trans (((cell_far (p := ⟨gb506, _, none⟩) NB483_506.out _).trans (((cell_far (p := ⟨gb506, _, none⟩) NB483_506.out _).trans (((cell_far (p := ⟨gb506, _, none⟩) NB483_506.out _).trans (((cell_far (p := ⟨gb506, _, none⟩) NB483_506.out _).trans (hHeld.1)))))))))))), ((cell_far (p := ⟨gb506, _, none⟩) NB483_506.out _).trans (((cell_far (p := ⟨gb506, _, none⟩) NB483_506.out _).trans (((cell_far (p := ⟨gb506, _, none⟩) NB483_506.out _).trans (((cell_far (p := ⟨gb506, _, none⟩) NB483_506.out _).trans (((cell_far (p := ⟨gb506, _, none⟩) NB483_506.out _).trans (((cell_far (p := ⟨gb506, _, none⟩) NB483_506.out _).trans (hHeld.2.1)))))))))))), ((cell_far (p := ⟨gb506, _, none⟩) NB483_506.out _).trans (((cell_far (p := ⟨gb506, _, none⟩) NB483_506.out _).trans (((cell_far (p := ⟨gb506, _, none⟩) NB483_506.out _).trans (((cell_far (p := ⟨gb506, _, none⟩) NB483_506.out _).trans (((cell_far (p := ⟨gb506, _, none⟩) NB483_506.out _).trans (((cell_far (p := ⟨gb506, _, none⟩) NB483_506.out _).trans (hHeld.2.2.1)))))))))))), ((cell_far (p := ⟨gb506, _, none⟩) NB484_506.out _).trans (((cell_far (p := ⟨gb506, _, none⟩) NB484_506.out _).trans (((cell_far (p := ⟨gb506, _, none⟩) NB484_506.out _).trans (((cell_far (p := ⟨gb506, _, none⟩) NB484_506.out _).trans (((cell_far (p := ⟨gb506, _, none⟩) NB484_506.out _).trans (((cell_far (p := ⟨gb506, _, none⟩) NB484_506.out _).trans (hHeld.2.2.2.1)))))))))))), ((cell_far (p := ⟨gb506, _, none⟩) NB484_506.out _).trans (((cell_far (p := ⟨gb506, _, none⟩) NB484_506.out _).trans (((cell_far (p := ⟨gb506, _, none⟩) NB484_506.out _).trans (((cell_far (p := ⟨gb506, _, none⟩) NB484_506.out _).trans (((cell_far (p := ⟨gb506, _, none⟩) NB484_506.out _).trans (((cell_far (p := ⟨gb506, _, none⟩) NB484_506.out _).trans (hHeld.2.2.2.2.1)))))))))))), ((cell_far (p := ⟨gb506, _, none⟩) NB484_506.out _).trans (((cell_far (p := ⟨gb506, _, none⟩) NB484_506.out _).trans (((cell_far (p := ⟨gb506, _, none⟩) NB484_506.out _).trans (((cell_far (p := ⟨gb506, _, none⟩) NB484_506.out _).trans (((cell_far (p := ⟨gb506, _, none⟩) NB484_506.out _).trans (((cell_far (p := ⟨gb506, _, none⟩) NB484_506.out _).trans (hHeld.2.2.2.2.2))))))))))))⟩ (fun hHeld => ?_)
      clear hK K
      refine done_ (done_of HT_.out (by kernel_rfl)) ?_
      have hnb62 := NB483_484.out
      have hnc62 := NB484_483.out
      have hnb63 := NB483_485.out
      have hnc63 := NB485_483.out
      have hnb64 := NB483_506.out
      have hnc64 := NB506_483.out
      have hcz65_0 : w55.cell? ⟨gb483, 0, none⟩ = some (.int .u8 a0_0) := (blk_cell BK483.out 0).trans rfl
      have hcz65_1 : w55.cell? ⟨gb483, 1, none⟩ = some (.int .i64 a0_1) := (blk_cell BK483.out 1).trans rfl
      have hcz65_2 : w55.cell? ⟨gb483, 2, none⟩ = some (.string a0_2) := (blk_cell BK483.out 2).trans rfl
      have hfz65_0 := blk_frozen BK483.out 0
      have hfz65_1 := blk_frozen BK483.out 1
      have hfz65_2 := blk_frozen BK483.out 2
      have hnb66 := NB484_485.out
      have hnc66 := NB485_484.out
      have hnb67 := NB484_506.out
      have hnc67 := NB506_484.out
      have hcz68_0 : w55.cell? ⟨gb484, 0, none⟩ = some (.int .u8 a1_0) := (blk_cell BK484.out 0).trans rfl
      have hcz68_1 : w55.cell? ⟨gb484, 1, none⟩ = some (.int .i64 a1_1) := (blk_cell BK484.out 1).trans rfl
      have hcz68_2 : w55.cell? ⟨gb484, 2, none⟩ = some (.string a1_2) := (blk_cell BK484.out 2).trans rfl
      have hfz68_0 := blk_frozen BK484.out 0
      have hfz68_1 := blk_frozen BK484.out 1
      have hfz68_2 := blk_frozen BK484.out 2
      have hnb69 := NB506_485.out
      have hnc69 := NB485_506.out
      have hcz70_0 : w55.cell? ⟨gb506, 0, none⟩ = some (.bool false) := (blk_cell BK506.out 0).trans rfl
      have hcz70_1 : w55.cell? ⟨gb506, 1, none⟩ = some (.int .u64 0) := (blk_cell BK506.out 1).trans rfl
      have hcz70_2 : w55.cell? ⟨gb506, 2, none⟩ = some (.int .u64 0) := (blk_cell BK506.out 2).trans rfl
      have hcz70_3 : w55.cell? ⟨gb506, 3, none⟩ = some (.int .u64 0) := (blk_cell BK506.out 3).trans rfl
      have hcz70_4 : w55.cell? ⟨gb506, 4, none⟩ = some (.int .u64 0) := (blk_cell BK506.out 4).trans rfl
      have hcz70_5 : w55.cell? ⟨gb506, 5, none⟩ = some (.int .u64 0) := (blk_cell BK506.out 5).trans rfl
      have hfz70_0 := blk_frozen BK506.out 0
      have hfz70_1 := blk_frozen BK506.out 1
      have hfz70_2 := blk_frozen BK506.out 2
      have hfz70_3 := blk_frozen BK506.out 3
      have hfz70_4 := blk_frozen BK506.out 4
      have hfz70_5 := blk_frozen BK506.out 5
      go_upto_region 10 with (first | ((with_reducible refine gate_callee (f := 68) rfl ?_); refine goesL_ (some 50) rfl rfl Tryd.func68 (by kernel_rfl) rfl #[.agg #[.int .u64 t501, .int .u64 t502, .int .u64 t503, .int .u64 t504, .int .u64 t505]] rfl (by (try simp only [List.map_toArray, List.map_cons, List.map_nil]); first | done | rfl | (simp only [List.length_drop, List.length_take]; rfl)) ?_; (with_reducible refine (rf17_less.calls t501 t502 t503 t504 t505 t515 t516 t517 t518 t519 t520 _ A48.out).mono ?_); rintro e w71 ⟨rfl, hb⟩; refine ⟨_, rfl, ?_⟩; have n0_ := Aside0.mk (blk_below (g := gb483) (o := .cells #[.int .u8 a0_0, .int .i64 a0_1, .string a0_2] 25 (0, 0)) (by (with_reducible repeat (first | refine blk_drewN ?_ _ | refine blk_drew ?_ | refine blk_alloc ?_ _ | refine blk_far ?_ NB483_506.out _)); exact BK483.out) hb); have n1_ := Aside0.mk (blk_below (g := gb484) (o := .cells #[.int .u8 a1_0, .int .i64 a1_1, .string a1_2] 25 (0, 0)) (by (with_reducible repeat (first | refine blk_drewN ?_ _ | refine blk_drew ?_ | refine blk_alloc ?_ _ | refine blk_far ?_ NB484_506.out _)); exact BK484.out) hb); have n2_ := Aside0.mk (blk_below (g := gb485) (o := .cells #[.int .u8 0, .int .i64 0, .string (⟨#[]⟩ : ByteArray)] 25 (0, 0)) (by (with_reducible repeat (first | refine blk_drewN ?_ _ | refine blk_drew ?_ | refine blk_alloc ?_ _ | refine blk_far ?_ NB485_506.out _)); exact BK485.out) hb); have n3_ := Aside0.mk (blk_below (g := gb506) (o := .cells #[.bool t500, .int .u64 t501, .int .u64 t502, .int .u64 t503, .int .u64 t504, .int .u64 t505] 56 (0, 0)) (by (with_reducible repeat first | apply blk_drewN | apply blk_drew | apply blk_alloc); refine blk_put (cs := #[.bool t500, .int .u64 t501, .int .u64 t502, .int .u64 t503, .int .u64 t504, .int .u64 0]) ?_ 5 _ rfl; refine blk_put (cs := #[.bool t500, .int .u64 t501, .int .u64 t502, .int .u64 t503, .int .u64 0, .int .u64 0]) ?_ 4 _ rfl; refine blk_put (cs := #[.bool t500, .int .u64 t501, .int .u64 t502, .int .u64 0, .int .u64 0, .int .u64 0]) ?_ 3 _ rfl; refine blk_put (cs := #[.bool t500, .int .u64 t501, .int .u64 0, .int .u64 0, .int .u64 0, .int .u64 0]) ?_ 2 _ rfl; refine blk_put (cs := #[.bool t500, .int .u64 0, .int .u64 0, .int .u64 0, .int .u64 0, .int .u64 0]) ?_ 1 _ rfl; refine blk_put (cs := #[.bool false, .int .u64 0, .int .u64 0, .int .u64 0, .int .u64 0, .int .u64 0]) ?_ 0 _ rfl; (with_reducible repeat first | apply blk_drewN | apply blk_drew | apply blk_alloc); exact BK506.out) hb); have n4_ := Aside0.mk (below_step (by repeat (first | (with_reducible first | exact HB.out | apply below_alloc | apply pw_below_drewN | apply below_drew1 | refine below_set ?_ (Aside0.out (by assumption))) | exact HB.out)) hb); clear BK483; clear BK484; clear BK485; clear BK506; clear HB; have BK483 := n0_; have BK484 := n1_; have BK485 := n2_; have BK506 := n3_; have HB := n4_; clear n0_ n1_ n2_ n3_ n4_; (try clear hb); (try clear hb2); (try clear hk); (try clear hi)) | ((with_reducible refine gate_dst (N := 9) rfl ?_); refine box_event ?hg (N := 9) ?hd (cs := #[.int .u64 0, .int .u64 0, .int .u64 0, .int .u64 0, .int .u64 0]) (t := 54) ?hr ?_; (case hd => rfl); (case hg => rfl); (case hr => first | (go_simp; done) | (go_simp; rfl)); intro gb521 hg w72 hbox hb; have n0_ := Aside0.mk (blk_below (bk BK483.out) hb); have n1_ := Aside0.mk (blk_below (bk BK484.out) hb); have n2_ := Aside0.mk (blk_below (bk BK485.out) hb); have n3_ := Aside0.mk (blk_below (bk BK506.out) hb); have n4_ := Aside0.mk (below_step (by repeat (first | (with_reducible first | exact HB.out | apply below_alloc | apply pw_below_drewN | apply below_drew1 | refine below_set ?_ (Aside0.out (by assumption))) | exact HB.out)) hb); have n5_ := Aside0.mk (hbox); have n6_ := Aside0.mk ((by rw [hg]; exact (below_size (by repeat (first | (with_reducible first | exact HB.out | apply below_alloc | apply pw_below_drewN | apply below_drew1 | refine below_set ?_ (Aside0.out (by assumption))) | exact HB.out))) : w.heap.size ≤ gb521)); have n7_ := Aside0.mk ((by rw [hg]; exact (below_size (by repeat (first | (with_reducible first | exact HB.out | apply below_alloc | apply pw_below_drewN | apply below_drew1 | refine below_set ?_ (Aside0.out (by assumption))) | exact HB.out))) : w.heap.size ≤ gb521)); have n8_ := Aside0.mk ((by rw [hg]; exact Nat.ne_of_lt (blk_lt (g := gb483) (o := .cells #[.int .u8 a0_0, .int .i64 a0_1, .string a0_2] 25 (0, 0)) (bk BK483.out)) : gb483 ≠ gb521)); have n9_ := Aside0.mk ((by rw [hg]; exact Nat.ne_of_gt (blk_lt (g := gb483) (o := .cells #[.int .u8 a0_0, .int .i64 a0_1, .string a0_2] 25 (0, 0)) (bk BK483.out)) : gb521 ≠ gb483)); have n10_ := Aside0.mk ((by rw [hg]; exact Nat.ne_of_lt (blk_lt (g := gb484) (o := .cells #[.int .u8 a1_0, .int .i64 a1_1, .string a1_2] 25 (0, 0)) (bk BK484.out)) : gb484 ≠ gb521)); have n11_ := Aside0.mk ((by rw [hg]; exact Nat.ne_of_gt (blk_lt (g := gb484) (o := .cells #[.int .u8 a1_0, .int .i64 a1_1, .string a1_2] 25 (0, 0)) (bk BK484.out)) : gb521 ≠ gb484)); have n12_ := Aside0.mk ((by rw [hg]; exact Nat.ne_of_lt (blk_lt (g := gb485) (o := .cells #[.int .u8 0, .int .i64 0, .string (⟨#[]⟩ : ByteArray)] 25 (0, 0)) (bk BK485.out)) : gb485 ≠ gb521)); have n13_ := Aside0.mk ((by rw [hg]; exact Nat.ne_of_gt (blk_lt (g := gb485) (o := .cells #[.int .u8 0, .int .i64 0, .string (⟨#[]⟩ : ByteArray)] 25 (0, 0)) (bk BK485.out)) : gb521 ≠ gb485)); have n14_ := Aside0.mk ((by rw [hg]; exact Nat.ne_of_lt (blk_lt (g := gb506) (o := .cells #[.bool t500, .int .u64 t501, .int .u64 t502, .int .u64 t503, .int .u64 t504, .int .u64 t505] 56 (0, 0)) (bk BK506.out)) : gb506 ≠ gb521)); have n15_ := Aside0.mk ((by rw [hg]; exact Nat.ne_of_gt (blk_lt (g := gb506) (o := .cells #[.bool t500, .int .u64 t501, .int .u64 t502, .int .u64 t503, .int .u64 t504, .int .u64 t505] 56 (0, 0)) (bk BK506.out)) : gb521 ≠ gb506)); clear BK483; clear BK484; clear BK485; clear BK506; clear HB; have BK483 := n0_; have BK484 := n1_; have BK485 := n2_; have BK506 := n3_; have HB := n4_; have BK521 := n5_; have GW521 := n6_; have GE521 := n7_; have NB483_521 := n8_; have NB521_483 := n9_; have NB484_521 := n10_; have NB521_484 := n11_; have NB485_521 := n12_; have NB521_485 := n13_; have NB506_521 := n14_; have NB521_506 := n15_; clear n0_ n1_ n2_ n3_ n4_ n5_ n6_ n7_ n8_ n9_ n10_ n11_ n12_ n13_ n14_ n15_; clear hb hbox hg; have hnb73 := NB521_483.out; have hnc73 := NB483_521.out; have hnb74 := NB521_484.out; have hnc74 := NB484_521.out; have hnb75 := NB521_485.out; have hnc75 := NB485_521.out; have hnb76 := NB521_506.out; have hnc76 := NB506_521.out; have hcz77_0 : w72.cell? ⟨gb521, 0, none⟩ = some (.int .u64 0) := (blk_cell BK521.out 0).trans rfl; have hcz77_1 : w72.cell? ⟨gb521, 1, none⟩ = some (.int .u64 0) := (blk_cell BK521.out 1).trans rfl; have hcz77_2 : w72.cell? ⟨gb521, 2, none⟩ = some (.int .u64 0) := (blk_cell BK521.out 2).trans rfl; have hcz77_3 : w72.cell? ⟨gb521, 3, none⟩ = some (.int .u64 0) := (blk_cell BK521.out 3).trans rfl; have hcz77_4 : w72.cell? ⟨gb521, 4, none⟩ = some (.int .u64 0) := (blk_cell BK521.out 4).trans rfl; have hfz77_0 := blk_frozen BK521.out 0; have hfz77_1 := blk_frozen BK521.out 1; have hfz77_2 := blk_frozen BK521.out 2; have hfz77_3 := blk_frozen BK521.out 3; have hfz77_4 := blk_frozen BK521.out 4))
      (try simp only [Act.put, List.setIfInBounds_toArray, List.set_cons_zero, List.set_cons_succ])
      go_cut [64] (fun v64 wc => ∃ (kq : Nat) (x64_48 : Bool), v64 = .bool x64_48 ∧ Aside0 (rf17_Mul.j1 kq x64_48 t500 t501 t502 t503 t504 t505 t515 t516 t517 t518 t519 = some (r1, r2, r3, r4)) ∧ Aside0 (kq ≤ kj3) ∧ Aside0 (wc.heap[gb483]? = some (.cells #[.int .u8 a0_0, .int .i64 a0_1, .string a0_2] 25 (0, 0))) ∧ Aside0 (wc.heap[gb484]? = some (.cells #[.int .u8 a1_0, .int .i64 a1_1, .string a1_2] 25 (0, 0))) ∧ Aside0 (wc.heap[gb485]? = some (.cells #[.int .u8 0, .int .i64 0, .string (⟨#[]⟩ : ByteArray)] 25 (0, 0))) ∧ Aside0 (wc.heap[gb506]? = some (.cells #[.bool t500, .int .u64 t501, .int .u64 t502, .int .u64 t503, .int .u64 t504, .int .u64 t505] 56 (0, 0))) ∧ Aside0 (wc.heap[gb521]? = some (.cells #[.int .u64 t515, .int .u64 t516, .int .u64 t517, .int .u64 t518, .int .u64 t519] 54 (0, 0))) ∧ Aside0 (Below w.heap.size w wc))
      case first =>
       have H := HC49.out
       clear HC49
       by_cases c78 : t520 > 5000
       ·rw [if_pos c78] at H
        have c78b0 : decide (5000 < t520) = true := decide_eq_true c78
        clear c78
        (first | rw [c78b0] | (simp only [i64_w, i32_w]; rw [c78b0]) | skip)
        have H' := Aside0.mk H
        clear H
        go_wp2
        go_meet
        case rel => exact ⟨_, (true), (by first | rfl | (simp; done) | (simp [*]; done)), H', ⟨by have := HJ3.out; first | omega | exact Nat.le_refl _⟩, ⟨by (with_reducible repeat (first | refine blk_drewN ?_ _ | refine blk_drew ?_ | refine blk_alloc ?_ _ | refine blk_far ?_ NB483_521.out _)); exact BK483.out⟩, ⟨by (with_reducible repeat (first | refine blk_drewN ?_ _ | refine blk_drew ?_ | refine blk_alloc ?_ _ | refine blk_far ?_ NB484_521.out _)); exact BK484.out⟩, ⟨by (with_reducible repeat (first | refine blk_drewN ?_ _ | refine blk_drew ?_ | refine blk_alloc ?_ _ | refine blk_far ?_ NB485_521.out _)); exact BK485.out⟩, ⟨by (with_reducible repeat (first | refine blk_drewN ?_ _ | refine blk_drew ?_ | refine blk_alloc ?_ _ | refine blk_far ?_ NB506_521.out _)); exact BK506.out⟩, ⟨by (with_reducible repeat first | apply blk_drewN | apply blk_drew | apply blk_alloc); refine blk_put (cs := #[.int .u64 t515, .int .u64 t516, .int .u64 t517, .int .u64 t518, .int .u64 0]) ?_ 4 _ rfl; refine blk_put (cs := #[.int .u64 t515, .int .u64 t516, .int .u64 t517, .int .u64 0, .int .u64 0]) ?_ 3 _ rfl; refine blk_put (cs := #[.int .u64 t515, .int .u64 t516, .int .u64 0, .int .u64 0, .int .u64 0]) ?_ 2 _ rfl; refine blk_put (cs := #[.int .u64 t515, .int .u64 0, .int .u64 0, .int .u64 0, .int .u64 0]) ?_ 1 _ rfl; refine blk_put (cs := #[.int .u64 0, .int .u64 0, .int .u64 0, .int .u64 0, .int .u64 0]) ?_ 0 _ rfl; (with_reducible repeat first | apply blk_drewN | apply blk_drew | apply blk_alloc); exact BK521.out⟩, ⟨by repeat (first | (with_reducible first | exact HB.out | apply below_alloc | apply pw_below_drewN | apply below_drew1 | refine below_set ?_ (Aside0.out (by assumption))) | exact HB.out)⟩⟩
       ·rw [if_neg c78] at H
        have c78b0 : decide (5000 < t520) = false := decide_eq_false c78
        clear c78
        (first | rw [c78b0] | (simp only [i64_w, i32_w]; rw [c78b0]) | skip)
        by_cases c79 : t520 = 5000
        ·rw [if_pos c79] at H
         have c79b0 : (t520 == 5000) = true := beq_iff_eq.mpr c79
         have c79b1 : (t520 != 5000) = false := bne_eq_false_iff_eq.mpr c79
         clear c79
         have H' := Aside0.mk H
         clear H
         have hnb80 := NB521_483.out
         have hnc80 := NB483_521.out
         have hnb81 := NB521_484.out
         have hnc81 := NB484_521.out
         have hnb82 := NB521_485.out
         have hnc82 := NB485_521.out
         have hnb83 := NB521_506.out
         have hnc83 := NB506_521.out
         have hcz84_0 : w72.cell? ⟨gb521, 0, none⟩ = some (.int .u64 0) := (blk_cell BK521.out 0).trans rfl
         have hcz84_1 : w72.cell? ⟨gb521, 1, none⟩ = some (.int .u64 0) := (blk_cell BK521.out 1).trans rfl
         have hcz84_2 : w72.cell? ⟨gb521, 2, none⟩ = some (.int .u64 0) := (blk_cell BK521.out 2).trans rfl
         have hcz84_3 : w72.cell? ⟨gb521, 3, none⟩ = some (.int .u64 0) := (blk_cell BK521.out 3).trans rfl
         have hcz84_4 : w72.cell? ⟨gb521, 4, none⟩ = some (.int .u64 0) := (blk_cell BK521.out 4).trans rfl
         have hfz84_0 := blk_frozen BK521.out 0
         have hfz84_1 := blk_frozen BK521.out 1
         have hfz84_2 := blk_frozen BK521.out 2
         have hfz84_3 := blk_frozen BK521.out 3
         have hfz84_4 := blk_frozen BK521.out 4
         go_wp2
         go_meet
         case rel => exact ⟨_, (((Int.tmod t515 2) == 1)), (by first | rfl | (simp; done) | (simp [*]; done)), H', ⟨by have := HJ3.out; first | omega | exact Nat.le_refl _⟩, ⟨by (with_reducible repeat (first | refine blk_drewN ?_ _ | refine blk_drew ?_ | refine blk_alloc ?_ _ | refine blk_far ?_ NB483_521.out _)); exact BK483.out⟩, ⟨by (with_reducible repeat (first | refine blk_drewN ?_ _ | refine blk_drew ?_ | refine blk_alloc ?_ _ | refine blk_far ?_ NB484_521.out _)); exact BK484.out⟩, ⟨by (with_reducible repeat (first | refine blk_drewN ?_ _ | refine blk_drew ?_ | refine blk_alloc ?_ _ | refine blk_far ?_ NB485_521.out _)); exact BK485.out⟩, ⟨by (with_reducible repeat (first | refine blk_drewN ?_ _ | refine blk_drew ?_ | refine blk_alloc ?_ _ | refine blk_far ?_ NB506_521.out _)); exact BK506.out⟩, ⟨by (with_reducible repeat first | apply blk_drewN | apply blk_drew | apply blk_alloc); refine blk_put (cs := #[.int .u64 t515, .int .u64 t516, .int .u64 t517, .int .u64 t518, .int .u64 0]) ?_ 4 _ rfl; refine blk_put (cs := #[.int .u64 t515, .int .u64 t516, .int .u64 t517, .int .u64 0, .int .u64 0]) ?_ 3 _ rfl; refine blk_put (cs := #[.int .u64 t515, .int .u64 t516, .int .u64 0, .int .u64 0, .int .u64 0]) ?_ 2 _ rfl; refine blk_put (cs := #[.int .u64 t515, .int .u64 0, .int .u64 0, .int .u64 0, .int .u64 0]) ?_ 1 _ rfl; refine blk_put (cs := #[.int .u64 0, .int .u64 0, .int .u64 0, .int .u64 0, .int .u64 0]) ?_ 0 _ rfl; (with_reducible repeat first | apply blk_drewN | apply blk_drew | apply blk_alloc); exact BK521.out⟩, ⟨by repeat (first | (with_reducible first | exact HB.out | apply below_alloc | apply pw_below_drewN | apply below_drew1 | refine below_set ?_ (Aside0.out (by assumption))) | exact HB.out)⟩⟩
        ·rw [if_neg c79] at H
         have c79b0 : (t520 == 5000) = false := beq_eq_false_iff_ne.mpr c79
         have c79b1 : (t520 != 5000) = true := bne_iff_ne.mpr c79
         have H' := Aside0.mk H
         clear H
         go_wp2
         go_meet
         case rel => exact ⟨_, (false), (by first | rfl | (simp; done) | (simp [*]; done)), H', ⟨by have := HJ3.out; first | omega | exact Nat.le_refl _⟩, ⟨by (with_reducible repeat (first | refine blk_drewN ?_ _ | refine blk_drew ?_ | refine blk_alloc ?_ _ | refine blk_far ?_ NB483_521.out _)); exact BK483.out⟩, ⟨by (with_reducible repeat (first | refine blk_drewN ?_ _ | refine blk_drew ?_ | refine blk_alloc ?_ _ | refine blk_far ?_ NB484_521.out _)); exact BK484.out⟩, ⟨by (with_reducible repeat (first | refine blk_drewN ?_ _ | refine blk_drew ?_ | refine blk_alloc ?_ _ | refine blk_far ?_ NB485_521.out _)); exact BK485.out⟩, ⟨by (with_reducible repeat (first | refine blk_drewN ?_ _ | refine blk_drew ?_ | refine blk_alloc ?_ _ | refine blk_far ?_ NB506_521.out _)); exact BK506.out⟩, ⟨by (with_reducible repeat first | apply blk_drewN | apply blk_drew | apply blk_alloc); refine blk_put (cs := #[.int .u64 t515, .int .u64 t516, .int .u64 t517, .int .u64 t518, .int .u64 0]) ?_ 4 _ rfl; refine blk_put (cs := #[.int .u64 t515, .int .u64 t516, .int .u64 t517, .int .u64 0, .int .u64 0]) ?_ 3 _ rfl; refine blk_put (cs := #[.int .u64 t515, .int .u64 t516, .int .u64 0, .int .u64 0, .int .u64 0]) ?_ 2 _ rfl; refine blk_put (cs := #[.int .u64 t515, .int .u64 0, .int .u64 0, .int .u64 0, .int .u64 0]) ?_ 1 _ rfl; refine blk_put (cs := #[.int .u64 0, .int .u64 0, .int .u64 0, .int .u64 0, .int .u64 0]) ?_ 0 _ rfl; (with_reducible repeat first | apply blk_drewN | apply blk_drew | apply blk_alloc); exact BK521.out⟩, ⟨by repeat (first | (with_reducible first | exact HB.out | apply below_alloc | apply pw_below_drewN | apply below_drew1 | refine below_set ?_ (Aside0.out (by assumption))) | exact HB.out)⟩⟩
      case rest =>
       clear HC49
       try clear p2
       try clear c6
       try clear c7
       try clear c8
       try clear c62
       try clear c63
       try clear c64
       try clear c66
       try clear c67
       try clear c68
       try clear c69
       try clear c73
       try clear c74
       try clear c75
       try clear c76
       try clear c78
       try clear c78b0
       try clear c79
       try clear c79b0
       try clear c79b1
       try clear c80
       try clear c81
       try clear c82
       try clear c83
       try clear hcz65_0
       try clear hcz65_1
       try clear hcz65_2
       try clear hcz68_0
       try clear hcz68_1
       try clear hcz68_2
       try clear hcz70_0
       try clear hcz70_1
       try clear hcz70_2
       try clear hcz70_3
       try clear hcz70_4
       try clear hcz70_5
       try clear hcz77_0
       try clear hcz77_1
       try clear hcz77_2
       try clear hcz77_3
       try clear hcz77_4
       try clear hcz84_0
       try clear hcz84_1
       try clear hcz84_2
       try clear hcz84_3
       try clear hcz84_4
       try clear hfz65_0
       try clear hfz65_1
       try clear hfz65_2
       try clear hfz68_0
       try clear hfz68_1
       try clear hfz68_2
       try clear hfz70_0
       try clear hfz70_1
       try clear hfz70_2
       try clear hfz70_3
       try clear hfz70_4
       try clear hfz70_5
       try clear hfz77_0
       try clear hfz77_1
       try clear hfz77_2
       try clear hfz77_3
       try clear hfz77_4
       try clear hfz84_0
       try clear hfz84_1
       try clear hfz84_2
       try clear hfz84_3
       try clear hfz84_4
       obtain ⟨kq, x64_48, rfl, HA, HJ48, BK483, BK484, BK485, BK506, BK521, HB⟩ := hcut
       cases kq with
       | zero => exact absurd HA.out (by simp [rf17_Mul.j1])
       | succ kj48 =>
        have H := HA.out
        clear HA
        simp only [rf17_Mul.j1] at H
        by_cases c85 : x64_48 = true
        ·subst c85
         have H1 : ((rf17_plus.f t515 t516 t517 t518 t519 1 0 0 0 0).bind fun bt522 => ((rf17_answer.f 3 t500 bt522.1 bt522.2.1 bt522.2.2.1 bt522.2.2.2.1 bt522.2.2.2.2).bind fun bt527 => (some (bt527.1, bt527.2.1, bt527.2.2.1, bt527.2.2.2)))) = some (r1, r2, r3, r4) := by rw [if_pos rfl] at H; exact H
         clear H
         have H := H1
         clear H1
         replace H := Option.bind_eq_some_iff.mp H
         obtain ⟨⟨t522, t523, t524, t525, t526⟩, A860, H⟩ := H
         replace H : ((rf17_answer.f 3 t500 t522 t523 t524 t525 t526).bind fun bt527 => (some (bt527.1, bt527.2.1, bt527.2.2.1, bt527.2.2.2))) = some (r1, r2, r3, r4) := H
         have A86 := Aside0.mk A860
         clear A860
         replace H := Option.bind_eq_some_iff.mp H
         obtain ⟨⟨t527, t528, t529, t530⟩, A870, H⟩ := H
         replace H : (some (t527, t528, t529, t530)) = some (r1, r2, r3, r4) := H
         have A87 := Aside0.mk A870
         clear A870
         simp only [Option.some.injEq, Prod.mk.injEq] at H
         obtain ⟨rfl, rfl, rfl, rfl⟩ := H
         have hnb88 := NB521_483.out
         have hnc88 := NB483_521.out
         have hnb89 := NB521_484.out
         have hnc89 := NB484_521.out
         have hnb90 := NB521_485.out
         have hnc90 := NB485_521.out
         have hnb91 := NB521_506.out
         have hnc91 := NB506_521.out
         have hcz92_0 : wc.cell? ⟨gb521, 0, none⟩ = some (.int .u64 t515) := (blk_cell BK521.out 0).trans rfl
         have hcz92_1 : wc.cell? ⟨gb521, 1, none⟩ = some (.int .u64 t516) := (blk_cell BK521.out 1).trans rfl
         have hcz92_2 : wc.cell? ⟨gb521, 2, none⟩ = some (.int .u64 t517) := (blk_cell BK521.out 2).trans rfl
         have hcz92_3 : wc.cell? ⟨gb521, 3, none⟩ = some (.int .u64 t518) := (blk_cell BK521.out 3).trans rfl
         have hcz92_4 : wc.cell? ⟨gb521, 4, none⟩ = some (.int .u64 t519) := (blk_cell BK521.out 4).trans rfl
         have hfz92_0 := blk_frozen BK521.out 0
         have hfz92_1 := blk_frozen BK521.out 1
         have hfz92_2 := blk_frozen BK521.out 2
         have hfz92_3 := blk_frozen BK521.out 3
         have hfz92_4 := blk_frozen BK521.out 4
         go_wp2_with (first | ((with_reducible refine gate_callee (f := 69) rfl ?_); refine goesL_ (some 67) rfl rfl Tryd.func69 (by kernel_rfl) rfl #[.agg #[.int .u64 t515, .int .u64 t516, .int .u64 t517, .int .u64 t518, .int .u64 t519], .agg #[.int .u64 1, .int .u64 0, .int .u64 0, .int .u64 0, .int .u64 0]] rfl (by (try simp only [List.map_toArray, List.map_cons, List.map_nil]); first | done | rfl | (simp only [List.length_drop, List.length_take]; rfl)) ?_; (with_reducible refine (rf17_plus.calls t515 t516 t517 t518 t519 1 0 0 0 0 t522 t523 t524 t525 t526 _ A86.out).mono ?_); rintro e w93 ⟨rfl, hb⟩; refine ⟨_, rfl, ?_⟩; have n0_ := Aside0.mk (blk_below (bk BK483.out) hb); have n1_ := Aside0.mk (blk_below (bk BK484.out) hb); have n2_ := Aside0.mk (blk_below (bk BK485.out) hb); have n3_ := Aside0.mk (blk_below (bk BK506.out) hb); have n4_ := Aside0.mk (blk_below (bk BK521.out) hb); have n5_ := Aside0.mk (below_step (by repeat (first | (with_reducible first | exact HB.out | apply below_alloc | apply pw_below_drewN | apply below_drew1 | refine below_set ?_ (Aside0.out (by assumption))) | exact HB.out)) hb); clear BK483; clear BK484; clear BK485; clear BK506; clear BK521; clear HB; have BK483 := n0_; have BK484 := n1_; have BK485 := n2_; have BK506 := n3_; have BK521 := n4_; have HB := n5_; clear n0_ n1_ n2_ n3_ n4_ n5_; (try clear hb); (try clear hb2); (try clear hk); (try clear hi); have hcz94_0 : w93.cell? ⟨gb521, 0, none⟩ = some (.int .u64 t515) := (blk_cell BK521.out 0).trans rfl; have hcz94_1 : w93.cell? ⟨gb521, 1, none⟩ = some (.int .u64 t516) := (blk_cell BK521.out 1).trans rfl; have hcz94_2 : w93.cell? ⟨gb521, 2, none⟩ = some (.int .u64 t517) := (blk_cell BK521.out 2).trans rfl; have hcz94_3 : w93.cell? ⟨gb521, 3, none⟩ = some (.int .u64 t518) := (blk_cell BK521.out 3).trans rfl; have hcz94_4 : w93.cell? ⟨gb521, 4, none⟩ = some (.int .u64 t519) := (blk_cell BK521.out 4).trans rfl; have hfz94_0 := blk_frozen BK521.out 0; have hfz94_1 := blk_frozen BK521.out 1; have hfz94_2 := blk_frozen BK521.out 2; have hfz94_3 := blk_frozen BK521.out 3; have hfz94_4 := blk_frozen BK521.out 4; have hnb95 := NB506_483.out; have hnc95 := NB483_506.out; have hnb96 := NB506_484.out; have hnc96 := NB484_506.out; have hnb97 := NB506_485.out; have hnc97 := NB485_506.out; have hcz98_0 : w93.cell? ⟨gb506, 0, none⟩ = some (.bool t500) := (blk_cell BK506.out 0).trans rfl; have hcz98_1 : w93.cell? ⟨gb506, 1, none⟩ = some (.int .u64 t501) := (blk_cell BK506.out 1).trans rfl; have hcz98_2 : w93.cell? ⟨gb506, 2, none⟩ = some (.int .u64 t502) := (blk_cell BK506.out 2).trans rfl; have hcz98_3 : w93.cell? ⟨gb506, 3, none⟩ = some (.int .u64 t503) := (blk_cell BK506.out 3).trans rfl; have hcz98_4 : w93.cell? ⟨gb506, 4, none⟩ = some (.int .u64 t504) := (blk_cell BK506.out 4).trans rfl; have hcz98_5 : w93.cell? ⟨gb506, 5, none⟩ = some (.int .u64 t505) := (blk_cell BK506.out 5).trans rfl; have hfz98_0 := blk_frozen BK506.out 0; have hfz98_1 := blk_frozen BK506.out 1; have hfz98_2 := blk_frozen BK506.out 2; have hfz98_3 := blk_frozen BK506.out 3; have hfz98_4 := blk_frozen BK506.out 4; have hfz98_5 := blk_frozen BK506.out 5) | ((with_reducible refine gate_callee (f := 65) rfl ?_); refine goesL_ (some 72) rfl rfl Tryd.func65 (by kernel_rfl) rfl #[.int .u8 3, .agg #[.bool t500, .int .u64 t522, .int .u64 t523, .int .u64 t524, .int .u64 t525, .int .u64 t526]] rfl (by (try simp only [List.map_toArray, List.map_cons, List.map_nil]); first | done | rfl | (simp only [List.length_drop, List.length_take]; rfl)) ?_; (with_reducible refine (rf17_answer.calls 3 t500 t522 t523 t524 t525 t526 t527 t528 t529 t530 _ A87.out).mono ?_); rintro e w99 ⟨rfl, hb⟩; refine ⟨_, rfl, ?_⟩; have n0_ := Aside0.mk (blk_below (g := gb483) (o := .cells #[.int .u8 a0_0, .int .i64 a0_1, .string a0_2] 25 (0, 0)) (by (with_reducible repeat (first | refine blk_drewN ?_ _ | refine blk_drew ?_ | refine blk_alloc ?_ _ | refine blk_far ?_ NB483_521.out _)); exact BK483.out) hb); have n1_ := Aside0.mk (blk_below (g := gb484) (o := .cells #[.int .u8 a1_0, .int .i64 a1_1, .string a1_2] 25 (0, 0)) (by (with_reducible repeat (first | refine blk_drewN ?_ _ | refine blk_drew ?_ | refine blk_alloc ?_ _ | refine blk_far ?_ NB484_521.out _)); exact BK484.out) hb); have n2_ := Aside0.mk (blk_below (g := gb485) (o := .cells #[.int .u8 0, .int .i64 0, .string (⟨#[]⟩ : ByteArray)] 25 (0, 0)) (by (with_reducible repeat (first | refine blk_drewN ?_ _ | refine blk_drew ?_ | refine blk_alloc ?_ _ | refine blk_far ?_ NB485_521.out _)); exact BK485.out) hb); have n3_ := Aside0.mk (blk_below (g := gb506) (o := .cells #[.bool t500, .int .u64 t501, .int .u64 t502, .int .u64 t503, .int .u64 t504, .int .u64 t505] 56 (0, 0)) (by (with_reducible repeat (first | refine blk_drewN ?_ _ | refine blk_drew ?_ | refine blk_alloc ?_ _ | refine blk_far ?_ NB506_521.out _)); exact BK506.out) hb); have n4_ := Aside0.mk (blk_below (g := gb521) (o := .cells #[.int .u64 t522, .int .u64 t523, .int .u64 t524, .int .u64 t525, .int .u64 t526] 54 (0, 0)) (by (with_reducible repeat first | apply blk_drewN | apply blk_drew | apply blk_alloc); refine blk_put (cs := #[.int .u64 t522, .int .u64 t523, .int .u64 t524, .int .u64 t525, .int .u64 t519]) ?_ 4 _ rfl; refine blk_put (cs := #[.int .u64 t522, .int .u64 t523, .int .u64 t524, .int .u64 t518, .int .u64 t519]) ?_ 3 _ rfl; refine blk_put (cs := #[.int .u64 t522, .int .u64 t523, .int .u64 t517, .int .u64 t518, .int .u64 t519]) ?_ 2 _ rfl; refine blk_put (cs := #[.int .u64 t522, .int .u64 t516, .int .u64 t517, .int .u64 t518, .int .u64 t519]) ?_ 1 _ rfl; refine blk_put (cs := #[.int .u64 t515, .int .u64 t516, .int .u64 t517, .int .u64 t518, .int .u64 t519]) ?_ 0 _ rfl; (with_reducible repeat first | apply blk_drewN | apply blk_drew | apply blk_alloc); exact BK521.out) hb); have n5_ := Aside0.mk (below_step (by repeat (first | (with_reducible first | exact HB.out | apply below_alloc | apply pw_below_drewN | apply below_drew1 | refine below_set ?_ (Aside0.out (by assumption))) | exact HB.out)) hb); clear BK483; clear BK484; clear BK485; clear BK506; clear BK521; clear HB; have BK483 := n0_; have BK484 := n1_; have BK485 := n2_; have BK506 := n3_; have BK521 := n4_; have HB := n5_; clear n0_ n1_ n2_ n3_ n4_ n5_; (try clear hb); (try clear hb2); (try clear hk); (try clear hi); have hnb100 := NB485_483.out; have hnc100 := NB483_485.out; have hnb101 := NB485_484.out; have hnc101 := NB484_485.out; have hcz102_0 : w99.cell? ⟨gb485, 0, none⟩ = some (.int .u8 0) := (blk_cell BK485.out 0).trans rfl; have hcz102_1 : w99.cell? ⟨gb485, 1, none⟩ = some (.int .i64 0) := (blk_cell BK485.out 1).trans rfl; have hcz102_2 : w99.cell? ⟨gb485, 2, none⟩ = some (.string (⟨#[]⟩ : ByteArray)) := (blk_cell BK485.out 2).trans rfl; have hfz102_0 := blk_frozen BK485.out 0; have hfz102_1 := blk_frozen BK485.out 1; have hfz102_2 := blk_frozen BK485.out 2))
         refine bodyPost_ret (results_ct rfl _ _ gb485 25 #[.int .u8 t527, .int .i64 t528, .string t529] (0, 0) _ rfl (by (with_reducible repeat first | apply blk_drewN | apply blk_drew | apply blk_alloc); refine blk_put (cs := #[.int .u8 t527, .int .i64 t528, .string (⟨#[]⟩ : ByteArray)]) ?_ 2 _ rfl; (with_reducible repeat first | apply blk_drewN | apply blk_drew | apply blk_alloc); refine blk_put (cs := #[.int .u8 t527, .int .i64 0, .string (⟨#[]⟩ : ByteArray)]) ?_ 1 _ rfl; (with_reducible repeat first | apply blk_drewN | apply blk_drew | apply blk_alloc); refine blk_put (cs := #[.int .u8 0, .int .i64 0, .string (⟨#[]⟩ : ByteArray)]) ?_ 0 _ rfl; (with_reducible repeat first | apply blk_drewN | apply blk_drew | apply blk_alloc); exact BK485.out) Tryd.underlying25 rfl (by kernel_rfl)) rfl ?_
         exact ⟨by first | rfl | (simp [errW_none, errW_some] <;> rfl) | (simp [*, errW_none, errW_some] <;> rfl), by repeat (first | (with_reducible first | exact HB.out | apply below_alloc | apply pw_below_drewN | apply below_drew1 | refine below_set ?_ (Aside0.out (by assumption))) | exact HB.out)⟩
        ·replace c85 := Bool.eq_false_iff.mpr c85
         subst c85
         have H1 : ((rf17_answer.f 3 t500 t515 t516 t517 t518 t519).bind fun bt531 => (some (bt531.1, bt531.2.1, bt531.2.2.1, bt531.2.2.2))) = some (r1, r2, r3, r4) := by rw [if_neg (show ¬ (false = true) by decide)] at H; exact H
         clear H
         have H := H1
         clear H1
         replace H := Option.bind_eq_some_iff.mp H
         obtain ⟨⟨t531, t532, t533, t534⟩, A1030, H⟩ := H
         replace H : (some (t531, t532, t533, t534)) = some (r1, r2, r3, r4) := H
         have A103 := Aside0.mk A1030
         clear A1030
         simp only [Option.some.injEq, Prod.mk.injEq] at H
         obtain ⟨rfl, rfl, rfl, rfl⟩ := H
         have hnb104 := NB506_483.out
         have hnc104 := NB483_506.out
         have hnb105 := NB506_484.out
         have hnc105 := NB484_506.out
         have hnb106 := NB506_485.out
         have hnc106 := NB485_506.out
         have hnb107 := NB506_521.out
         have hnc107 := NB521_506.out
         have hcz108_0 : wc.cell? ⟨gb506, 0, none⟩ = some (.bool t500) := (blk_cell BK506.out 0).trans rfl
         have hcz108_1 : wc.cell? ⟨gb506, 1, none⟩ = some (.int .u64 t501) := (blk_cell BK506.out 1).trans rfl
         have hcz108_2 : wc.cell? ⟨gb506, 2, none⟩ = some (.int .u64 t502) := (blk_cell BK506.out 2).trans rfl
         have hcz108_3 : wc.cell? ⟨gb506, 3, none⟩ = some (.int .u64 t503) := (blk_cell BK506.out 3).trans rfl
         have hcz108_4 : wc.cell? ⟨gb506, 4, none⟩ = some (.int .u64 t504) := (blk_cell BK506.out 4).trans rfl
         have hcz108_5 : wc.cell? ⟨gb506, 5, none⟩ = some (.int .u64 t505) := (blk_cell BK506.out 5).trans rfl
         have hfz108_0 := blk_frozen BK506.out 0
         have hfz108_1 := blk_frozen BK506.out 1
         have hfz108_2 := blk_frozen BK506.out 2
         have hfz108_3 := blk_frozen BK506.out 3
         have hfz108_4 := blk_frozen BK506.out 4
         have hfz108_5 := blk_frozen BK506.out 5
         have hnb109 := NB521_483.out
         have hnc109 := NB483_521.out
         have hnb110 := NB521_484.out
         have hnc110 := NB484_521.out
         have hnb111 := NB521_485.out
         have hnc111 := NB485_521.out
         have hcz112_0 : wc.cell? ⟨gb521, 0, none⟩ = some (.int .u64 t515) := (blk_cell BK521.out 0).trans rfl
         have hcz112_1 : wc.cell? ⟨gb521, 1, none⟩ = some (.int .u64 t516) := (blk_cell BK521.out 1).trans rfl
         have hcz112_2 : wc.cell? ⟨gb521, 2, none⟩ = some (.int .u64 t517) := (blk_cell BK521.out 2).trans rfl
         have hcz112_3 : wc.cell? ⟨gb521, 3, none⟩ = some (.int .u64 t518) := (blk_cell BK521.out 3).trans rfl
         have hcz112_4 : wc.cell? ⟨gb521, 4, none⟩ = some (.int .u64 t519) := (blk_cell BK521.out 4).trans rfl
         have hfz112_0 := blk_frozen BK521.out 0
         have hfz112_1 := blk_frozen BK521.out 1
         have hfz112_2 := blk_frozen BK521.out 2
         have hfz112_3 := blk_frozen BK521.out 3
         have hfz112_4 := blk_frozen BK521.out 4
         go_wp2_with (first | ((with_reducible refine gate_callee (f := 65) rfl ?_); refine goesL_ (some 72) rfl rfl Tryd.func65 (by kernel_rfl) rfl #[.int .u8 3, .agg #[.bool t500, .int .u64 t515, .int .u64 t516, .int .u64 t517, .int .u64 t518, .int .u64 t519]] rfl (by (try simp only [List.map_toArray, List.map_cons, List.map_nil]); first | done | rfl | (simp only [List.length_drop, List.length_take]; rfl)) ?_; (with_reducible refine (rf17_answer.calls 3 t500 t515 t516 t517 t518 t519 t531 t532 t533 t534 _ A103.out).mono ?_); rintro e w113 ⟨rfl, hb⟩; refine ⟨_, rfl, ?_⟩; have n0_ := Aside0.mk (blk_below (bk BK483.out) hb); have n1_ := Aside0.mk (blk_below (bk BK484.out) hb); have n2_ := Aside0.mk (blk_below (bk BK485.out) hb); have n3_ := Aside0.mk (blk_below (bk BK506.out) hb); have n4_ := Aside0.mk (blk_below (bk BK521.out) hb); have n5_ := Aside0.mk (below_step (by repeat (first | (with_reducible first | exact HB.out | apply below_alloc | apply pw_below_drewN | apply below_drew1 | refine below_set ?_ (Aside0.out (by assumption))) | exact HB.out)) hb); clear BK483; clear BK484; clear BK485; clear BK506; clear BK521; clear HB; have BK483 := n0_; have BK484 := n1_; have BK485 := n2_; have BK506 := n3_; have BK521 := n4_; have HB := n5_; clear n0_ n1_ n2_ n3_ n4_ n5_; (try clear hb); (try clear hb2); (try clear hk); (try clear hi); have hnb114 := NB485_483.out; have hnc114 := NB483_485.out; have hnb115 := NB485_484.out; have hnc115 := NB484_485.out; have hcz116_0 : w113.cell? ⟨gb485, 0, none⟩ = some (.int .u8 0) := (blk_cell BK485.out 0).trans rfl; have hcz116_1 : w113.cell? ⟨gb485, 1, none⟩ = some (.int .i64 0) := (blk_cell BK485.out 1).trans rfl; have hcz116_2 : w113.cell? ⟨gb485, 2, none⟩ = some (.string (⟨#[]⟩ : ByteArray)) := (blk_cell BK485.out 2).trans rfl; have hfz116_0 := blk_frozen BK485.out 0; have hfz116_1 := blk_frozen BK485.out 1; have hfz116_2 := blk_frozen BK485.out 2))
         refine bodyPost_ret (results_ct rfl _ _ gb485 25 #[.int .u8 t531, .int .i64 t532, .string t533] (0, 0) _ rfl (by (with_reducible repeat first | apply blk_drewN | apply blk_drew | apply blk_alloc); refine blk_put (cs := #[.int .u8 t531, .int .i64 t532, .string (⟨#[]⟩ : ByteArray)]) ?_ 2 _ rfl; (with_reducible repeat first | apply blk_drewN | apply blk_drew | apply blk_alloc); refine blk_put (cs := #[.int .u8 t531, .int .i64 0, .string (⟨#[]⟩ : ByteArray)]) ?_ 1 _ rfl; (with_reducible repeat first | apply blk_drewN | apply blk_drew | apply blk_alloc); refine blk_put (cs := #[.int .u8 0, .int .i64 0, .string (⟨#[]⟩ : ByteArray)]) ?_ 0 _ rfl; (with_reducible repeat first | apply blk_drewN | apply blk_drew | apply blk_alloc); exact BK485.out) Tryd.underlying25 rfl (by kernel_rfl)) rfl ?_
         exact ⟨by first | rfl | (simp [errW_none, errW_some] <;> rfl) | (simp [*, errW_none, errW_some] <;> rfl), by repeat (first | (with_reducible first | exact HB.out | apply below_alloc | apply pw_below_drewN | apply below_drew1 | refine below_set ?_ (Aside0.out (by assumption))) | exact HB.out)⟩
    ·rw [if_neg c22] at H
     have c22b0 : (a0_0 == a1_0) = false := beq_eq_false_iff_ne.mpr c22
     have c22b1 : (a0_0 != a1_0) = true := bne_iff_ne.mpr c22
     replace H := Option.bind_eq_some_iff.mp H
     obtain ⟨⟨t507, t508, t509, t510⟩, A1170, H⟩ := H
     replace H : (some (t507, t508, t509, t510)) = some (r1, r2, r3, r4) := H
     have A117 := Aside0.mk A1170
     clear A1170
     simp only [Option.some.injEq, Prod.mk.injEq] at H
     obtain ⟨rfl, rfl, rfl, rfl⟩ := H
     try go_wp2
     have n0_ := Aside0.mk (blk_drew BK483.out)
     have n1_ := Aside0.mk (blk_drew BK484.out)
     have n2_ := Aside0.mk (blk_drew BK485.out)
     have n3_ := Aside0.mk (below_drew1 HB.out)
     clear BK483
     clear BK484
     clear BK485
     clear HB
     have BK483 := n0_
     have BK484 := n1_
     have BK485 := n2_
     have HB := n3_
     clear n0_ n1_ n2_ n3_
     refine start_ (n := 9) (S := fun w' => w'.cell? ⟨gb483, 0, none⟩ = some (.int .u8 a0_0) ∧ w'.cell? ⟨gb483, 1, none⟩ = some (.int .i64 a0_1) ∧ w'.cell? ⟨gb483, 2, none⟩ = some (.string a0_2) ∧ w'.cell? ⟨gb484, 0, none⟩ = some (.int .u8 a1_0) ∧ w'.cell? ⟨gb484, 1, none⟩ = some (.int .i64 a1_1) ∧ w'.cell? ⟨gb484, 2, none⟩ = some (.string a1_2)) (ds := []) #[false, false, false, false, false, false, false, false, false] (by kernel_rfl) rfl rfl ⟨(blk_cell BK483.out 0).trans rfl, (blk_cell BK483.out 1).trans rfl, (blk_cell BK483.out 2).trans rfl, (blk_cell BK484.out 0).trans rfl, (blk_cell BK484.out 1).trans rfl, (blk_cell BK484.out 2).trans rfl⟩ (fun hHeld => ?_); refine with_tabW rf17_Mul.tab4 rf17_Mul.bits4 (fun HT_ HW_ => ?_)
     generalize wc.drew = w118 at BK483 BK484 BK485 HB hHeld ⊢
     refine pure_ (i := 0) (N := some 24) (v := ?_) (a' := ?_) #[true, false, false, false, false, false, false, false, false] rfl rfl (any_of HT_.out (by kernel_rfl)) (fun _ _ _ h => h) (Or.inl ⟨by rfl, ?_⟩) ?_ ?_
     rotate_left
     ·intro w'
      go_simp
      with_reducible rfl
     rotate_left
     ·simp only [Act.put, List.setIfInBounds_toArray, List.set_cons_zero, List.set_cons_succ, i64_w, i32_w]
      rfl
     refine pure_ (i := 3) (N := some 27) (v := ?_) (a' := ?_) #[true, false, false, true, false, false, false, false, false] rfl rfl (any_of HT_.out (by kernel_rfl)) (fun _ _ _ h => h) (Or.inl ⟨by rfl, ?_⟩) ?_ ?_
     rotate_left
     ·intro w'
      go_simp
      with_reducible rfl
     rotate_left
     ·simp only [Act.put, List.setIfInBounds_toArray, List.set_cons_zero, List.set_cons_succ, i64_w, i32_w]
      rfl
     refine take_ (i := 1) (N := some 25) (v := ?_) (a' := ?_) #[true, true, false, true, false, false, false, false, false] rfl rfl (take_ofW HT_.out HW_.out (by kernel_rfl)) (fun _ _ _ h => h) (Or.inl ⟨by rfl, ?_⟩) hHeld ?_ ?_
     rotate_left
     ·rintro w' ⟨s0, s1, s2, s3, s4, s5⟩
      go_simp
      with_reducible rfl
     rotate_left
     ·simp only [Act.put, List.setIfInBounds_toArray, List.set_cons_zero, List.set_cons_succ, i64_w, i32_w]
      rfl
     refine take_ (i := 4) (N := some 28) (v := ?_) (a' := ?_) #[true, true, false, true, true, false, false, false, false] rfl rfl (take_ofW HT_.out HW_.out (by kernel_rfl)) (fun _ _ _ h => h) (Or.inl ⟨by rfl, ?_⟩) hHeld ?_ ?_
     rotate_left
     ·rintro w' ⟨s0, s1, s2, s3, s4, s5⟩
      go_simp
      with_reducible rfl
     rotate_left
     ·simp only [Act.put, List.setIfInBounds_toArray, List.set_cons_zero, List.set_cons_succ, i64_w, i32_w]
      rfl
     refine join_ (σ := Nat) 1 #[true, true, true, true, true, true, true, true, false] (fun s_ => [(26, .agg #[.bool t488, .int .u64 t489, .int .u64 t490, .int .u64 t491, .int .u64 t492, .int .u64 t493]), (29, .agg #[.bool t494, .int .u64 t495, .int .u64 t496, .int .u64 t497, .int .u64 t498, .int .u64 t499]), (30, .agg #[.bool t500, .int .u64 t501, .int .u64 t502, .int .u64 t503, .int .u64 t504, .int .u64 t505]), (8, .pointer (some ⟨s_, 0, none⟩))]) (fun s_ w' => (w'.cell? ⟨gb483, 0, none⟩ = some (.int .u8 a0_0) ∧ w'.cell? ⟨gb483, 1, none⟩ = some (.int .i64 a0_1) ∧ w'.cell? ⟨gb483, 2, none⟩ = some (.string a0_2) ∧ w'.cell? ⟨gb484, 0, none⟩ = some (.int .u8 a1_0) ∧ w'.cell? ⟨gb484, 1, none⟩ = some (.int .i64 a1_1) ∧ w'.cell? ⟨gb484, 2, none⟩ = some (.string a1_2)) ∧ (w'.heap[gb483]? = some (.cells #[.int .u8 a0_0, .int .i64 a0_1, .string a0_2] 25 (0, 0))) ∧ (w'.heap[gb484]? = some (.cells #[.int .u8 a1_0, .int .i64 a1_1, .string a1_2] 25 (0, 0))) ∧ (w'.heap[gb485]? = some (.cells #[.int .u8 0, .int .i64 0, .string (⟨#[]⟩ : ByteArray)] 25 (0, 0))) ∧ (w'.heap[s_]? = some (.cells #[.bool false, .int .u64 0, .int .u64 0, .int .u64 0, .int .u64 0, .int .u64 0] 56 (0, 0))) ∧ (w.heap.size ≤ s_) ∧ (w.heap.size ≤ s_) ∧ (gb483 ≠ s_) ∧ (s_ ≠ gb483) ∧ (gb484 ≠ s_) ∧ (s_ ≠ gb484) ∧ (gb485 ≠ s_) ∧ (s_ ≠ gb485) ∧ (Below w.heap.size w w')) ?_ ?_
     rotate_left
     ·intro hCont
      refine two_ (i := 2) (j := 7) (Ni := some 26) (Nj := some 8) #[true, true, true, true, true, false, false, false, false] #[true, true, false, true, true, false, false, true, false] rfl rfl rfl rfl (two_of HT_.out (by kernel_rfl)) (by decide) (by decide) (fun K hK => ?_) (fun K hK => ?_)
      ·skip
       refine goes_ Tryd.func66 (by kernel_rfl) rfl #[.int .i64 a0_1] (by rfl) rfl rfl (by (try simp only [List.map_toArray, List.map_cons, List.map_nil]); first | done | rfl | (simp only [List.length_drop, List.length_take]; rfl)) ?_
       with_reducible refine (rf17_big.calls a0_1 t488 t489 t490 t491 t492 t493 _ A19.out).mono ?_
       rintro e w119 ⟨rfl, hb⟩
       refine ⟨_, rfl, ?_⟩
       have n0_ := Aside0.mk (blk_below (bk BK483.out) hb)
       have n1_ := Aside0.mk (blk_below (bk BK484.out) hb)
       have n2_ := Aside0.mk (blk_below (bk BK485.out) hb)
       have n3_ := Aside0.mk (below_step (by repeat (first | (with_reducible first | exact HB.out | apply below_alloc | apply pw_below_drewN | apply below_drew1 | refine below_set ?_ (Aside0.out (by assumption))) | exact HB.out)) hb)
       clear BK483
       clear BK484
       clear BK485
       clear HB
       have BK483 := n0_
       have BK484 := n1_
       have BK485 := n2_
       have HB := n3_
       clear n0_ n1_ n2_ n3_
       (try clear hb)
       (try clear hb2)
       (try clear hk)
       (try clear hi)
       refine hK.out _ _ ⟨(blk_cell BK483.out 0).trans rfl, (blk_cell BK483.out 1).trans rfl, (blk_cell BK483.out 2).trans rfl, (blk_cell BK484.out 0).trans rfl, (blk_cell BK484.out 1).trans rfl, (blk_cell BK484.out 2).trans rfl⟩ (fun hHeld => ?_)
       clear hK K
       refine norm_ (a' := ?_) ?_ ?_
       rotate_left
       ·show Act.put _ (some 26) _ = _
        simp only [Act.put, List.setIfInBounds_toArray, List.set_cons_zero, List.set_cons_succ, i64_w, i32_w]
        rfl
       refine two_ (i := 5) (j := 7) (Ni := some 29) (Nj := some 8) #[true, true, true, true, true, true, false, false, false] #[true, true, true, true, true, false, false, true, false] rfl rfl rfl rfl (two_of HT_.out (by kernel_rfl)) (by decide) (by decide) (fun K hK => ?_) (fun K hK => ?_)
       ·skip
        refine goes_ Tryd.func66 (by kernel_rfl) rfl #[.int .i64 a1_1] (by rfl) rfl rfl (by (try simp only [List.map_toArray, List.map_cons, List.map_nil]); first | done | rfl | (simp only [List.length_drop, List.length_take]; rfl)) ?_
        with_reducible refine (rf17_big.calls a1_1 t494 t495 t496 t497 t498 t499 _ A20.out).mono ?_
        rintro e w120 ⟨rfl, hb⟩
        refine ⟨_, rfl, ?_⟩
        have n0_ := Aside0.mk (blk_below (bk BK483.out) hb)
        have n1_ := Aside0.mk (blk_below (bk BK484.out) hb)
        have n2_ := Aside0.mk (blk_below (bk BK485.out) hb)
        have n3_ := Aside0.mk (below_step (by repeat (first | (with_reducible first | exact HB.out | apply below_alloc | apply pw_below_drewN | apply below_drew1 | refine below_set ?_ (Aside0.out (by assumption))) | exact HB.out)) hb)
        clear BK483
        clear BK484
        clear BK485
        clear HB
        have BK483 := n0_
        have BK484 := n1_
        have BK485 := n2_
        have HB := n3_
        clear n0_ n1_ n2_ n3_
        (try clear hb)
        (try clear hb2)
        (try clear hk)
        (try clear hi)
        refine hK.out _ _ ⟨(blk_cell BK483.out 0).trans rfl, (blk_cell BK483.out 1).trans rfl, (blk_cell BK483.out 2).trans rfl, (blk_cell BK484.out 0).trans rfl, (blk_cell BK484.out 1).trans rfl, (blk_cell BK484.out 2).trans rfl⟩ (fun hHeld => ?_)
        clear hK K
        refine norm_ (a' := ?_) ?_ ?_
        rotate_left
        ·show Act.put _ (some 29) _ = _
         simp only [Act.put, List.setIfInBounds_toArray, List.set_cons_zero, List.set_cons_succ, i64_w, i32_w]
         rfl
        refine two_ (i := 6) (j := 7) (Ni := some 30) (Nj := some 8) #[true, true, true, true, true, true, true, false, false] #[true, true, true, true, true, true, false, true, false] rfl rfl rfl rfl (two_of HT_.out (by kernel_rfl)) (by decide) (by decide) (fun K hK => ?_) (fun K hK => ?_)
        ·skip
         refine goes_ Tryd.func67 (by kernel_rfl) rfl #[.agg #[.bool t488, .int .u64 t489, .int .u64 t490, .int .u64 t491, .int .u64 t492, .int .u64 t493], .agg #[.bool t494, .int .u64 t495, .int .u64 t496, .int .u64 t497, .int .u64 t498, .int .u64 t499]] (by rfl) rfl rfl (by (try simp only [List.map_toArray, List.map_cons, List.map_nil]); first | done | rfl | (simp only [List.length_drop, List.length_take]; rfl)) ?_
         with_reducible refine (rf17_times.calls t488 t489 t490 t491 t492 t493 t494 t495 t496 t497 t498 t499 t500 t501 t502 t503 t504 t505 _ A21.out).mono ?_
         rintro e w121 ⟨rfl, hb⟩
         refine ⟨_, rfl, ?_⟩
         have n0_ := Aside0.mk (blk_below (bk BK483.out) hb)
         have n1_ := Aside0.mk (blk_below (bk BK484.out) hb)
         have n2_ := Aside0.mk (blk_below (bk BK485.out) hb)
         have n3_ := Aside0.mk (below_step (by repeat (first | (with_reducible first | exact HB.out | apply below_alloc | apply pw_below_drewN | apply below_drew1 | refine below_set ?_ (Aside0.out (by assumption))) | exact HB.out)) hb)
         clear BK483
         clear BK484
         clear BK485
         clear HB
         have BK483 := n0_
         have BK484 := n1_
         have BK485 := n2_
         have HB := n3_
         clear n0_ n1_ n2_ n3_
         (try clear hb)
         (try clear hb2)
         (try clear hk)
         (try clear hi)
         refine hK.out _ _ ⟨(blk_cell BK483.out 0).trans rfl, (blk_cell BK483.out 1).trans rfl, (blk_cell BK483.out 2).trans rfl, (blk_cell BK484.out 0).trans rfl, (blk_cell BK484.out 1).trans rfl, (blk_cell BK484.out 2).trans rfl⟩ (fun hHeld => ?_)
         clear hK K
         refine norm_ (a' := ?_) ?_ ?_
         rotate_left
         ·show Act.put _ (some 30) _ = _
          simp only [Act.put, List.setIfInBounds_toArray, List.set_cons_zero, List.set_cons_succ, i64_w, i32_w]
          rfl
         refine one_ (i := 7) (N := some 8) #[true, true, true, true, true, true, true, true, false] rfl rfl (one_of HT_.out (by kernel_rfl)) (by decide) (fun K hK => ?_)
         refine box_step ?hg (N := 8) ?hd (cs := #[.bool false, .int .u64 0, .int .u64 0, .int .u64 0, .int .u64 0, .int .u64 0]) (t := 56) ?hr ?_; (case hd => rfl); (case hg => rfl); (case hr => first | (go_simp; done) | (go_simp; rfl))
         intro gb506 hg w122 hbox hb
         have n0_ := Aside0.mk (blk_below (bk BK483.out) hb)
         have n1_ := Aside0.mk (blk_below (bk BK484.out) hb)
         have n2_ := Aside0.mk (blk_below (bk BK485.out) hb)
         have n3_ := Aside0.mk (below_step (by repeat (first | (with_reducible first | exact HB.out | apply below_alloc | apply pw_below_drewN | apply below_drew1 | refine below_set ?_ (Aside0.out (by assumption))) | exact HB.out)) hb)
         have n4_ := Aside0.mk (hbox)
         have n5_ := Aside0.mk ((by rw [hg]; exact (below_size (by repeat (first | (with_reducible first | exact HB.out | apply below_alloc | apply pw_below_drewN | apply below_drew1 | refine below_set ?_ (Aside0.out (by assumption))) | exact HB.out))) : w.heap.size ≤ gb506))
         have n6_ := Aside0.mk ((by rw [hg]; exact (below_size (by repeat (first | (with_reducible first | exact HB.out | apply below_alloc | apply pw_below_drewN | apply below_drew1 | refine below_set ?_ (Aside0.out (by assumption))) | exact HB.out))) : w.heap.size ≤ gb506))
         have n7_ := Aside0.mk ((by rw [hg]; exact Nat.ne_of_lt (blk_lt (g := gb483) (o := .cells #[.int .u8 a0_0, .int .i64 a0_1, .string a0_2] 25 (0, 0)) (bk BK483.out)) : gb483 ≠ gb506))
         have n8_ := Aside0.mk ((by rw [hg]; exact Nat.ne_of_gt (blk_lt (g := gb483) (o := .cells #[.int .u8 a0_0, .int .i64 a0_1, .string a0_2] 25 (0, 0)) (bk BK483.out)) : gb506 ≠ gb483))
         have n9_ := Aside0.mk ((by rw [hg]; exact Nat.ne_of_lt (blk_lt (g := gb484) (o := .cells #[.int .u8 a1_0, .int .i64 a1_1, .string a1_2] 25 (0, 0)) (bk BK484.out)) : gb484 ≠ gb506))
         have n10_ := Aside0.mk ((by rw [hg]; exact Nat.ne_of_gt (blk_lt (g := gb484) (o := .cells #[.int .u8 a1_0, .int .i64 a1_1, .string a1_2] 25 (0, 0)) (bk BK484.out)) : gb506 ≠ gb484))
         have n11_ := Aside0.mk ((by rw [hg]; exact Nat.ne_of_lt (blk_lt (g := gb485) (o := .cells #[.int .u8 0, .int .i64 0, .string (⟨#[]⟩ : ByteArray)] 25 (0, 0)) (bk BK485.out)) : gb485 ≠ gb506))
         have n12_ := Aside0.mk ((by rw [hg]; exact Nat.ne_of_gt (blk_lt (g := gb485) (o := .cells #[.int .u8 0, .int .i64 0, .string (⟨#[]⟩ : ByteArray)] 25 (0, 0)) (bk BK485.out)) : gb506 ≠ gb485))
         clear BK483
         clear BK484
         clear BK485
         clear HB
         have BK483 := n0_
         have BK484 := n1_
         have BK485 := n2_
         have HB := n3_
         have BK506 := n4_
         have GW506 := n5_
         have GE506 := n6_
         have NB483_506 := n7_
         have NB506_483 := n8_
         have NB484_506 := n9_
         have NB506_484 := n10_
         have NB485_506 := n11_
         have NB506_485 := n12_
         clear n0_ n1_ n2_ n3_ n4_ n5_ n6_ n7_ n8_ n9_ n10_ n11_ n12_
         clear hb hbox hg
         refine hK.out _ _ ⟨(blk_cell BK483.out 0).trans rfl, (blk_cell BK483.out 1).trans rfl, (blk_cell BK483.out 2).trans rfl, (blk_cell BK484.out 0).trans rfl, (blk_cell BK484.out 1).trans rfl, (blk_cell BK484.out 2).trans rfl⟩ (fun hHeld => ?_)
         clear hK K
         refine norm_ (a' := ?_) ?_ ?_
         rotate_left
         ·show Act.put _ (some 8) _ = _
          simp only [Act.put, List.setIfInBounds_toArray, List.set_cons_zero, List.set_cons_succ, i64_w, i32_w]
          rfl
         exact norm_ (by simp only [putAll, Act.put, List.setIfInBounds_toArray, List.set_cons_zero, List.set_cons_succ]) (hCont (gb506) _ ⟨hHeld, (bk BK483.out), (bk BK484.out), (bk BK485.out), (bk BK506.out), GW506.out, GE506.out, NB483_506.out, NB506_483.out, NB484_506.out, NB506_484.out, NB485_506.out, NB506_485.out, (by repeat (first | (with_reducible first | exact HB.out | apply below_alloc | apply pw_below_drewN | apply below_drew1 | refine below_set ?_ (Aside0.out (by assumption))) | exact HB.out))⟩)
        ·skip
         refine box_step ?hg (N := 8) ?hd (cs := #[.bool false, .int .u64 0, .int .u64 0, .int .u64 0, .int .u64 0, .int .u64 0]) (t := 56) ?hr ?_; (case hd => rfl); (case hg => rfl); (case hr => first | (go_simp; done) | (go_simp; rfl))
         intro gb506 hg w121 hbox hb
         have n0_ := Aside0.mk (blk_below (bk BK483.out) hb)
         have n1_ := Aside0.mk (blk_below (bk BK484.out) hb)
         have n2_ := Aside0.mk (blk_below (bk BK485.out) hb)
         have n3_ := Aside0.mk (below_step (by repeat (first | (with_reducible first | exact HB.out | apply below_alloc | apply pw_below_drewN | apply below_drew1 | refine below_set ?_ (Aside0.out (by assumption))) | exact HB.out)) hb)
         have n4_ := Aside0.mk (hbox)
         have n5_ := Aside0.mk ((by rw [hg]; exact (below_size (by repeat (first | (with_reducible first | exact HB.out | apply below_alloc | apply pw_below_drewN | apply below_drew1 | refine below_set ?_ (Aside0.out (by assumption))) | exact HB.out))) : w.heap.size ≤ gb506))
         have n6_ := Aside0.mk ((by rw [hg]; exact (below_size (by repeat (first | (with_reducible first | exact HB.out | apply below_alloc | apply pw_below_drewN | apply below_drew1 | refine below_set ?_ (Aside0.out (by assumption))) | exact HB.out))) : w.heap.size ≤ gb506))
         have n7_ := Aside0.mk ((by rw [hg]; exact Nat.ne_of_lt (blk_lt (g := gb483) (o := .cells #[.int .u8 a0_0, .int .i64 a0_1, .string a0_2] 25 (0, 0)) (bk BK483.out)) : gb483 ≠ gb506))
         have n8_ := Aside0.mk ((by rw [hg]; exact Nat.ne_of_gt (blk_lt (g := gb483) (o := .cells #[.int .u8 a0_0, .int .i64 a0_1, .string a0_2] 25 (0, 0)) (bk BK483.out)) : gb506 ≠ gb483))
         have n9_ := Aside0.mk ((by rw [hg]; exact Nat.ne_of_lt (blk_lt (g := gb484) (o := .cells #[.int .u8 a1_0, .int .i64 a1_1, .string a1_2] 25 (0, 0)) (bk BK484.out)) : gb484 ≠ gb506))
         have n10_ := Aside0.mk ((by rw [hg]; exact Nat.ne_of_gt (blk_lt (g := gb484) (o := .cells #[.int .u8 a1_0, .int .i64 a1_1, .string a1_2] 25 (0, 0)) (bk BK484.out)) : gb506 ≠ gb484))
         have n11_ := Aside0.mk ((by rw [hg]; exact Nat.ne_of_lt (blk_lt (g := gb485) (o := .cells #[.int .u8 0, .int .i64 0, .string (⟨#[]⟩ : ByteArray)] 25 (0, 0)) (bk BK485.out)) : gb485 ≠ gb506))
         have n12_ := Aside0.mk ((by rw [hg]; exact Nat.ne_of_gt (blk_lt (g := gb485) (o := .cells #[.int .u8 0, .int .i64 0, .string (⟨#[]⟩ : ByteArray)] 25 (0, 0)) (bk BK485.out)) : gb506 ≠ gb485))
         clear BK483
         clear BK484
         clear BK485
         clear HB
         have BK483 := n0_
         have BK484 := n1_
         have BK485 := n2_
         have HB := n3_
         have BK506 := n4_
         have GW506 := n5_
         have GE506 := n6_
         have NB483_506 := n7_
         have NB506_483 := n8_
         have NB484_506 := n9_
         have NB506_484 := n10_
         have NB485_506 := n11_
         have NB506_485 := n12_
         clear n0_ n1_ n2_ n3_ n4_ n5_ n6_ n7_ n8_ n9_ n10_ n11_ n12_
         clear hb hbox hg
         refine hK.out _ _ ⟨(blk_cell BK483.out 0).trans rfl, (blk_cell BK483.out 1).trans rfl, (blk_cell BK483.out 2).trans rfl, (blk_cell BK484.out 0).trans rfl, (blk_cell BK484.out 1).trans rfl, (blk_cell BK484.out 2).trans rfl⟩ (fun hHeld => ?_)
         clear hK K
         refine norm_ (a' := ?_) ?_ ?_
         rotate_left
         ·show Act.put _ (some 8) _ = _
          simp only [Act.put, List.setIfInBounds_toArray, List.set_cons_zero, List.set_cons_succ, i64_w, i32_w]
          rfl
         refine one_ (i := 6) (N := some 30) #[true, true, true, true, true, true, true, true, false] rfl rfl (one_of HT_.out (by kernel_rfl)) (by decide) (fun K hK => ?_)
         refine goes_ Tryd.func67 (by kernel_rfl) rfl #[.agg #[.bool t488, .int .u64 t489, .int .u64 t490, .int .u64 t491, .int .u64 t492, .int .u64 t493], .agg #[.bool t494, .int .u64 t495, .int .u64 t496, .int .u64 t497, .int .u64 t498, .int .u64 t499]] (by rfl) rfl rfl (by (try simp only [List.map_toArray, List.map_cons, List.map_nil]); first | done | rfl | (simp only [List.length_drop, List.length_take]; rfl)) ?_
         with_reducible refine (rf17_times.calls t488 t489 t490 t491 t492 t493 t494 t495 t496 t497 t498 t499 t500 t501 t502 t503 t504 t505 _ A21.out).mono ?_
         rintro e w122 ⟨rfl, hb⟩
         refine ⟨_, rfl, ?_⟩
         have n0_ := Aside0.mk (blk_below (bk BK483.out) hb)
         have n1_ := Aside0.mk (blk_below (bk BK484.out) hb)
         have n2_ := Aside0.mk (blk_below (bk BK485.out) hb)
         have n3_ := Aside0.mk (blk_below (bk BK506.out) hb)
         have n4_ := Aside0.mk (below_step (by repeat (first | (with_reducible first | exact HB.out | apply below_alloc | apply pw_below_drewN | apply below_drew1 | refine below_set ?_ (Aside0.out (by assumption))) | exact HB.out)) hb)
         clear BK483
         clear BK484
         clear BK485
         clear BK506
         clear HB
         have BK483 := n0_
         have BK484 := n1_
         have BK485 := n2_
         have BK506 := n3_
         have HB := n4_
         clear n0_ n1_ n2_ n3_ n4_
         (try clear hb)
         (try clear hb2)
         (try clear hk)
         (try clear hi)
         refine hK.out _ _ ⟨(blk_cell BK483.out 0).trans rfl, (blk_cell BK483.out 1).trans rfl, (blk_cell BK483.out 2).trans rfl, (blk_cell BK484.out 0).trans rfl, (blk_cell BK484.out 1).trans rfl, (blk_cell BK484.out 2).trans rfl⟩ (fun hHeld => ?_)
         clear hK K
         refine norm_ (a' := ?_) ?_ ?_
         rotate_left
         ·show Act.put _ (some 30) _ = _
          simp only [Act.put, List.setIfInBounds_toArray, List.set_cons_zero, List.set_cons_succ, i64_w, i32_w]
          rfl
         exact norm_ (by simp only [putAll, Act.put, List.setIfInBounds_toArray, List.set_cons_zero, List.set_cons_succ]) (hCont (gb506) _ ⟨hHeld, (bk BK483.out), (bk BK484.out), (bk BK485.out), (bk BK506.out), GW506.out, GE506.out, NB483_506.out, NB506_483.out, NB484_506.out, NB506_484.out, NB485_506.out, NB506_485.out, (by repeat (first | (with_reducible first | exact HB.out | apply below_alloc | apply pw_below_drewN | apply below_drew1 | refine below_set ?_ (Aside0.out (by assumption))) | exact HB.out))⟩)
       ·skip
        refine box_step ?hg (N := 8) ?hd (cs := #[.bool false, .int .u64 0, .int .u64 0, .int .u64 0, .int .u64 0, .int .u64 0]) (t := 56) ?hr ?_; (case hd => rfl); (case hg => rfl); (case hr => first | (go_simp; done) | (go_simp; rfl))
        intro gb506 hg w120 hbox hb
        have n0_ := Aside0.mk (blk_below (bk BK483.out) hb)
        have n1_ := Aside0.mk (blk_below (bk BK484.out) hb)
        have n2_ := Aside0.mk (blk_below (bk BK485.out) hb)
        have n3_ := Aside0.mk (below_step (by repeat (first | (with_reducible first | exact HB.out | apply below_alloc | apply pw_below_drewN | apply below_drew1 | refine below_set ?_ (Aside0.out (by assumption))) | exact HB.out)) hb)
        have n4_ := Aside0.mk (hbox)
        have n5_ := Aside0.mk ((by rw [hg]; exact (below_size (by repeat (first | (with_reducible first | exact HB.out | apply below_alloc | apply pw_below_drewN | apply below_drew1 | refine below_set ?_ (Aside0.out (by assumption))) | exact HB.out))) : w.heap.size ≤ gb506))
        have n6_ := Aside0.mk ((by rw [hg]; exact (below_size (by repeat (first | (with_reducible first | exact HB.out | apply below_alloc | apply pw_below_drewN | apply below_drew1 | refine below_set ?_ (Aside0.out (by assumption))) | exact HB.out))) : w.heap.size ≤ gb506))
        have n7_ := Aside0.mk ((by rw [hg]; exact Nat.ne_of_lt (blk_lt (g := gb483) (o := .cells #[.int .u8 a0_0, .int .i64 a0_1, .string a0_2] 25 (0, 0)) (bk BK483.out)) : gb483 ≠ gb506))
        have n8_ := Aside0.mk ((by rw [hg]; exact Nat.ne_of_gt (blk_lt (g := gb483) (o := .cells #[.int .u8 a0_0, .int .i64 a0_1, .string a0_2] 25 (0, 0)) (bk BK483.out)) : gb506 ≠ gb483))
        have n9_ := Aside0.mk ((by rw [hg]; exact Nat.ne_of_lt (blk_lt (g := gb484) (o := .cells #[.int .u8 a1_0, .int .i64 a1_1, .string a1_2] 25 (0, 0)) (bk BK484.out)) : gb484 ≠ gb506))
        have n10_ := Aside0.mk ((by rw [hg]; exact Nat.ne_of_gt (blk_lt (g := gb484) (o := .cells #[.int .u8 a1_0, .int .i64 a1_1, .string a1_2] 25 (0, 0)) (bk BK484.out)) : gb506 ≠ gb484))
        have n11_ := Aside0.mk ((by rw [hg]; exact Nat.ne_of_lt (blk_lt (g := gb485) (o := .cells #[.int .u8 0, .int .i64 0, .string (⟨#[]⟩ : ByteArray)] 25 (0, 0)) (bk BK485.out)) : gb485 ≠ gb506))
        have n12_ := Aside0.mk ((by rw [hg]; exact Nat.ne_of_gt (blk_lt (g := gb485) (o := .cells #[.int .u8 0, .int .i64 0, .string (⟨#[]⟩ : ByteArray)] 25 (0, 0)) (bk BK485.out)) : gb506 ≠ gb485))
        clear BK483
        clear BK484
        clear BK485
        clear HB
        have BK483 := n0_
        have BK484 := n1_
        have BK485 := n2_
        have HB := n3_
        have BK506 := n4_
        have GW506 := n5_
        have GE506 := n6_
        have NB483_506 := n7_
        have NB506_483 := n8_
        have NB484_506 := n9_
        have NB506_484 := n10_
        have NB485_506 := n11_
        have NB506_485 := n12_
        clear n0_ n1_ n2_ n3_ n4_ n5_ n6_ n7_ n8_ n9_ n10_ n11_ n12_
        clear hb hbox hg
        refine hK.out _ _ ⟨(blk_cell BK483.out 0).trans rfl, (blk_cell BK483.out 1).trans rfl, (blk_cell BK483.out 2).trans rfl, (blk_cell BK484.out 0).trans rfl, (blk_cell BK484.out 1).trans rfl, (blk_cell BK484.out 2).trans rfl⟩ (fun hHeld => ?_)
        clear hK K
        refine norm_ (a' := ?_) ?_ ?_
        rotate_left
        ·show Act.put _ (some 8) _ = _
         simp only [Act.put, List.setIfInBounds_toArray, List.set_cons_zero, List.set_cons_succ, i64_w, i32_w]
         rfl
        refine one_ (i := 5) (N := some 29) #[true, true, true, true, true, true, false, true, false] rfl rfl (one_of HT_.out (by kernel_rfl)) (by decide) (fun K hK => ?_)
        refine goes_ Tryd.func66 (by kernel_rfl) rfl #[.int .i64 a1_1] (by rfl) rfl rfl (by (try simp only [List.map_toArray, List.map_cons, List.map_nil]); first | done | rfl | (simp only [List.length_drop, List.length_take]; rfl)) ?_
        with_reducible refine (rf17_big.calls a1_1 t494 t495 t496 t497 t498 t499 _ A20.out).mono ?_
        rintro e w121 ⟨rfl, hb⟩
        refine ⟨_, rfl, ?_⟩
        have n0_ := Aside0.mk (blk_below (bk BK483.out) hb)
        have n1_ := Aside0.mk (blk_below (bk BK484.out) hb)
        have n2_ := Aside0.mk (blk_below (bk BK485.out) hb)
        have n3_ := Aside0.mk (blk_below (bk BK506.out) hb)
        have n4_ := Aside0.mk (below_step (by repeat (first | (with_reducible first | exact HB.out | apply below_alloc | apply pw_below_drewN | apply below_drew1 | refine below_set ?_ (Aside0.out (by assumption))) | exact HB.out)) hb)
        clear BK483
        clear BK484
        clear BK485
        clear BK506
        clear HB
        have BK483 := n0_
        have BK484 := n1_
        have BK485 := n2_
        have BK506 := n3_
        have HB := n4_
        clear n0_ n1_ n2_ n3_ n4_
        (try clear hb)
        (try clear hb2)
        (try clear hk)
        (try clear hi)
        refine hK.out _ _ ⟨(blk_cell BK483.out 0).trans rfl, (blk_cell BK483.out 1).trans rfl, (blk_cell BK483.out 2).trans rfl, (blk_cell BK484.out 0).trans rfl, (blk_cell BK484.out 1).trans rfl, (blk_cell BK484.out 2).trans rfl⟩ (fun hHeld => ?_)
        clear hK K
        refine norm_ (a' := ?_) ?_ ?_
        rotate_left
        ·show Act.put _ (some 29) _ = _
         simp only [Act.put, List.setIfInBounds_toArray, List.set_cons_zero, List.set_cons_succ, i64_w, i32_w]
         rfl
        refine one_ (i := 6) (N := some 30) #[true, true, true, true, true, true, true, true, false] rfl rfl (one_of HT_.out (by kernel_rfl)) (by decide) (fun K hK => ?_)
        refine goes_ Tryd.func67 (by kernel_rfl) rfl #[.agg #[.bool t488, .int .u64 t489, .int .u64 t490, .int .u64 t491, .int .u64 t492, .int .u64 t493], .agg #[.bool t494, .int .u64 t495, .int .u64 t496, .int .u64 t497, .int .u64 t498, .int .u64 t499]] (by rfl) rfl rfl (by (try simp only [List.map_toArray, List.map_cons, List.map_nil]); first | done | rfl | (simp only [List.length_drop, List.length_take]; rfl)) ?_
        with_reducible refine (rf17_times.calls t488 t489 t490 t491 t492 t493 t494 t495 t496 t497 t498 t499 t500 t501 t502 t503 t504 t505 _ A21.out).mono ?_
        rintro e w122 ⟨rfl, hb⟩
        refine ⟨_, rfl, ?_⟩
        have n0_ := Aside0.mk (blk_below (bk BK483.out) hb)
        have n1_ := Aside0.mk (blk_below (bk BK484.out) hb)
        have n2_ := Aside0.mk (blk_below (bk BK485.out) hb)
        have n3_ := Aside0.mk (blk_below (bk BK506.out) hb)
        have n4_ := Aside0.mk (below_step (by repeat (first | (with_reducible first | exact HB.out | apply below_alloc | apply pw_below_drewN | apply below_drew1 | refine below_set ?_ (Aside0.out (by assumption))) | exact HB.out)) hb)
        clear BK483
        clear BK484
        clear BK485
        clear BK506
        clear HB
        have BK483 := n0_
        have BK484 := n1_
        have BK485 := n2_
        have BK506 := n3_
        have HB := n4_
        clear n0_ n1_ n2_ n3_ n4_
        (try clear hb)
        (try clear hb2)
        (try clear hk)
        (try clear hi)
        refine hK.out _ _ ⟨(blk_cell BK483.out 0).trans rfl, (blk_cell BK483.out 1).trans rfl, (blk_cell BK483.out 2).trans rfl, (blk_cell BK484.out 0).trans rfl, (blk_cell BK484.out 1).trans rfl, (blk_cell BK484.out 2).trans rfl⟩ (fun hHeld => ?_)
        clear hK K
        refine norm_ (a' := ?_) ?_ ?_
        rotate_left
        ·show Act.put _ (some 30) _ = _
         simp only [Act.put, List.setIfInBounds_toArray, List.set_cons_zero, List.set_cons_succ, i64_w, i32_w]
         rfl
        exact norm_ (by simp only [putAll, Act.put, List.setIfInBounds_toArray, List.set_cons_zero, List.set_cons_succ]) (hCont (gb506) _ ⟨hHeld, (bk BK483.out), (bk BK484.out), (bk BK485.out), (bk BK506.out), GW506.out, GE506.out, NB483_506.out, NB506_483.out, NB484_506.out, NB506_484.out, NB485_506.out, NB506_485.out, (by repeat (first | (with_reducible first | exact HB.out | apply below_alloc | apply pw_below_drewN | apply below_drew1 | refine below_set ?_ (Aside0.out (by assumption))) | exact HB.out))⟩)
      ·skip
       refine box_step ?hg (N := 8) ?hd (cs := #[.bool false, .int .u64 0, .int .u64 0, .int .u64 0, .int .u64 0, .int .u64 0]) (t := 56) ?hr ?_; (case hd => rfl); (case hg => rfl); (case hr => first | (go_simp; done) | (go_simp; rfl))
       intro gb506 hg w119 hbox hb
       have n0_ := Aside0.mk (blk_below (bk BK483.out) hb)
       have n1_ := Aside0.mk (blk_below (bk BK484.out) hb)
       have n2_ := Aside0.mk (blk_below (bk BK485.out) hb)
       have n3_ := Aside0.mk (below_step (by repeat (first | (with_reducible first | exact HB.out | apply below_alloc | apply pw_below_drewN | apply below_drew1 | refine below_set ?_ (Aside0.out (by assumption))) | exact HB.out)) hb)
       have n4_ := Aside0.mk (hbox)
       have n5_ := Aside0.mk ((by rw [hg]; exact (below_size (by repeat (first | (with_reducible first | exact HB.out | apply below_alloc | apply pw_below_drewN | apply below_drew1 | refine below_set ?_ (Aside0.out (by assumption))) | exact HB.out))) : w.heap.size ≤ gb506))
       have n6_ := Aside0.mk ((by rw [hg]; exact (below_size (by repeat (first | (with_reducible first | exact HB.out | apply below_alloc | apply pw_below_drewN | apply below_drew1 | refine below_set ?_ (Aside0.out (by assumption))) | exact HB.out))) : w.heap.size ≤ gb506))
       have n7_ := Aside0.mk ((by rw [hg]; exact Nat.ne_of_lt (blk_lt (g := gb483) (o := .cells #[.int .u8 a0_0, .int .i64 a0_1, .string a0_2] 25 (0, 0)) (bk BK483.out)) : gb483 ≠ gb506))
       have n8_ := Aside0.mk ((by rw [hg]; exact Nat.ne_of_gt (blk_lt (g := gb483) (o := .cells #[.int .u8 a0_0, .int .i64 a0_1, .string a0_2] 25 (0, 0)) (bk BK483.out)) : gb506 ≠ gb483))
       have n9_ := Aside0.mk ((by rw [hg]; exact Nat.ne_of_lt (blk_lt (g := gb484) (o := .cells #[.int .u8 a1_0, .int .i64 a1_1, .string a1_2] 25 (0, 0)) (bk BK484.out)) : gb484 ≠ gb506))
       have n10_ := Aside0.mk ((by rw [hg]; exact Nat.ne_of_gt (blk_lt (g := gb484) (o := .cells #[.int .u8 a1_0, .int .i64 a1_1, .string a1_2] 25 (0, 0)) (bk BK484.out)) : gb506 ≠ gb484))
       have n11_ := Aside0.mk ((by rw [hg]; exact Nat.ne_of_lt (blk_lt (g := gb485) (o := .cells #[.int .u8 0, .int .i64 0, .string (⟨#[]⟩ : ByteArray)] 25 (0, 0)) (bk BK485.out)) : gb485 ≠ gb506))
       have n12_ := Aside0.mk ((by rw [hg]; exact Nat.ne_of_gt (blk_lt (g := gb485) (o := .cells #[.int .u8 0, .int .i64 0, .string (⟨#[]⟩ : ByteArray)] 25 (0, 0)) (bk BK485.out)) : gb506 ≠ gb485))
       clear BK483
       clear BK484
       clear BK485
       clear HB
       have BK483 := n0_
       have BK484 := n1_
       have BK485 := n2_
       have HB := n3_
       have BK506 := n4_
       have GW506 := n5_
       have GE506 := n6_
       have NB483_506 := n7_
       have NB506_483 := n8_
       have NB484_506 := n9_
       have NB506_484 := n10_
       have NB485_506 := n11_
       have NB506_485 := n12_
       clear n0_ n1_ n2_ n3_ n4_ n5_ n6_ n7_ n8_ n9_ n10_ n11_ n12_
       clear hb hbox hg
       refine hK.out _ _ ⟨(blk_cell BK483.out 0).trans rfl, (blk_cell BK483.out 1).trans rfl, (blk_cell BK483.out 2).trans rfl, (blk_cell BK484.out 0).trans rfl, (blk_cell BK484.out 1).trans rfl, (blk_cell BK484.out 2).trans rfl⟩ (fun hHeld => ?_)
       clear hK K
       refine norm_ (a' := ?_) ?_ ?_
       rotate_left
       ·show Act.put _ (some 8) _ = _
        simp only [Act.put, List.setIfInBounds_toArray, List.set_cons_zero, List.set_cons_succ, i64_w, i32_w]
        rfl
       refine one_ (i := 2) (N := some 26) #[true, true, true, true, true, false, false, true, false] rfl rfl (one_of HT_.out (by kernel_rfl)) (by decide) (fun K hK => ?_)
       refine goes_ Tryd.func66 (by kernel_rfl) rfl #[.int .i64 a0_1] (by rfl) rfl rfl (by (try simp only [List.map_toArray, List.map_cons, List.map_nil]); first | done | rfl | (simp only [List.length_drop, List.length_take]; rfl)) ?_
       with_reducible refine (rf17_big.calls a0_1 t488 t489 t490 t491 t492 t493 _ A19.out).mono ?_
       rintro e w120 ⟨rfl, hb⟩
       refine ⟨_, rfl, ?_⟩
       have n0_ := Aside0.mk (blk_below (bk BK483.out) hb)
       have n1_ := Aside0.mk (blk_below (bk BK484.out) hb)
       have n2_ := Aside0.mk (blk_below (bk BK485.out) hb)
       have n3_ := Aside0.mk (blk_below (bk BK506.out) hb)
       have n4_ := Aside0.mk (below_step (by repeat (first | (with_reducible first | exact HB.out | apply below_alloc | apply pw_below_drewN | apply below_drew1 | refine below_set ?_ (Aside0.out (by assumption))) | exact HB.out)) hb)
       clear BK483
       clear BK484
       clear BK485
       clear BK506
       clear HB
       have BK483 := n0_
       have BK484 := n1_
       have BK485 := n2_
       have BK506 := n3_
       have HB := n4_
       clear n0_ n1_ n2_ n3_ n4_
       (try clear hb)
       (try clear hb2)
       (try clear hk)
       (try clear hi)
       refine hK.out _ _ ⟨(blk_cell BK483.out 0).trans rfl, (blk_cell BK483.out 1).trans rfl, (blk_cell BK483.out 2).trans rfl, (blk_cell BK484.out 0).trans rfl, (blk_cell BK484.out 1).trans rfl, (blk_cell BK484.out 2).trans rfl⟩ (fun hHeld => ?_)
       clear hK K
       refine norm_ (a' := ?_) ?_ ?_
       rotate_left
       ·show Act.put _ (some 26) _ = _
        simp only [Act.put, List.setIfInBounds_toArray, List.set_cons_zero, List.set_cons_succ, i64_w, i32_w]
        rfl
       refine one_ (i := 5) (N := some 29) #[true, true, true, true, true, true, false, true, false] rfl rfl (one_of HT_.out (by kernel_rfl)) (by decide) (fun K hK => ?_)
       refine goes_ Tryd.func66 (by kernel_rfl) rfl #[.int .i64 a1_1] (by rfl) rfl rfl (by (try simp only [List.map_toArray, List.map_cons, List.map_nil]); first | done | rfl | (simp only [List.length_drop, List.length_take]; rfl)) ?_
       with_reducible refine (rf17_big.calls a1_1 t494 t495 t496 t497 t498 t499 _ A20.out).mono ?_
       rintro e w121 ⟨rfl, hb⟩
       refine ⟨_, rfl, ?_⟩
       have n0_ := Aside0.mk (blk_below (bk BK483.out) hb)
       have n1_ := Aside0.mk (blk_below (bk BK484.out) hb)
       have n2_ := Aside0.mk (blk_below (bk BK485.out) hb)
       have n3_ := Aside0.mk (blk_below (bk BK506.out) hb)
       have n4_ := Aside0.mk (below_step (by repeat (first | (with_reducible first | exact HB.out | apply below_alloc | apply pw_below_drewN | apply below_drew1 | refine below_set ?_ (Aside0.out (by assumption))) | exact HB.out)) hb)
       clear BK483
       clear BK484
       clear BK485
       clear BK506
       clear HB
       have BK483 := n0_
       have BK484 := n1_
       have BK485 := n2_
       have BK506 := n3_
       have HB := n4_
       clear n0_ n1_ n2_ n3_ n4_
       (try clear hb)
       (try clear hb2)
       (try clear hk)
       (try clear hi)
       refine hK.out _ _ ⟨(blk_cell BK483.out 0).trans rfl, (blk_cell BK483.out 1).trans rfl, (blk_cell BK483.out 2).trans rfl, (blk_cell BK484.out 0).trans rfl, (blk_cell BK484.out 1).trans rfl, (blk_cell BK484.out 2).trans rfl⟩ (fun hHeld => ?_)
       clear hK K
       refine norm_ (a' := ?_) ?_ ?_
       rotate_left
       ·show Act.put _ (some 29) _ = _
        simp only [Act.put, List.setIfInBounds_toArray, List.set_cons_zero, List.set_cons_succ, i64_w, i32_w]
        rfl
       refine one_ (i := 6) (N := some 30) #[true, true, true, true, true, true, true, true, false] rfl rfl (one_of HT_.out (by kernel_rfl)) (by decide) (fun K hK => ?_)
       refine goes_ Tryd.func67 (by kernel_rfl) rfl #[.agg #[.bool t488, .int .u64 t489, .int .u64 t490, .int .u64 t491, .int .u64 t492, .int .u64 t493], .agg #[.bool t494, .int .u64 t495, .int .u64 t496, .int .u64 t497, .int .u64 t498, .int .u64 t499]] (by rfl) rfl rfl (by (try simp only [List.map_toArray, List.map_cons, List.map_nil]); first | done | rfl | (simp only [List.length_drop, List.length_take]; rfl)) ?_
       with_reducible refine (rf17_times.calls t488 t489 t490 t491 t492 t493 t494 t495 t496 t497 t498 t499 t500 t501 t502 t503 t504 t505 _ A21.out).mono ?_
       rintro e w122 ⟨rfl, hb⟩
       refine ⟨_, rfl, ?_⟩
       have n0_ := Aside0.mk (blk_below (bk BK483.out) hb)
       have n1_ := Aside0.mk (blk_below (bk BK484.out) hb)
       have n2_ := Aside0.mk (blk_below (bk BK485.out) hb)
       have n3_ := Aside0.mk (blk_below (bk BK506.out) hb)
       have n4_ := Aside0.mk (below_step (by repeat (first | (with_reducible first | exact HB.out | apply below_alloc | apply pw_below_drewN | apply below_drew1 | refine below_set ?_ (Aside0.out (by assumption))) | exact HB.out)) hb)
       clear BK483
       clear BK484
       clear BK485
       clear BK506
       clear HB
       have BK483 := n0_
       have BK484 := n1_
       have BK485 := n2_
       have BK506 := n3_
       have HB := n4_
       clear n0_ n1_ n2_ n3_ n4_
       (try clear hb)
       (try clear hb2)
       (try clear hk)
       (try clear hi)
       refine hK.out _ _ ⟨(blk_cell BK483.out 0).trans rfl, (blk_cell BK483.out 1).trans rfl, (blk_cell BK483.out 2).trans rfl, (blk_cell BK484.out 0).trans rfl, (blk_cell BK484.out 1).trans rfl, (blk_cell BK484.out 2).trans rfl⟩ (fun hHeld => ?_)
       clear hK K
       refine norm_ (a' := ?_) ?_ ?_
       rotate_left
       ·show Act.put _ (some 30) _ = _
        simp only [Act.put, List.setIfInBounds_toArray, List.set_cons_zero, List.set_cons_succ, i64_w, i32_w]
        rfl
       exact norm_ (by simp only [putAll, Act.put, List.setIfInBounds_toArray, List.set_cons_zero, List.set_cons_succ]) (hCont (gb506) _ ⟨hHeld, (bk BK483.out), (bk BK484.out), (bk BK485.out), (bk BK506.out), GW506.out, GE506.out, NB483_506.out, NB506_483.out, NB484_506.out, NB506_484.out, NB485_506.out, NB506_485.out, (by repeat (first | (with_reducible first | exact HB.out | apply below_alloc | apply pw_below_drewN | apply below_drew1 | refine below_set ?_ (Aside0.out (by assumption))) | exact HB.out))⟩)
     rintro gb506 w123 ⟨hS_, h0_, h1_, h2_, h3_, h4_, h5_, h6_, h7_, h8_, h9_, h10_, h11_, h12_⟩
     have n0_ : Aside0 (w123.heap[gb483]? = some (.cells #[.int .u8 a0_0, .int .i64 a0_1, .string a0_2] 25 (0, 0))) := ⟨h0_⟩
     have n1_ : Aside0 (w123.heap[gb484]? = some (.cells #[.int .u8 a1_0, .int .i64 a1_1, .string a1_2] 25 (0, 0))) := ⟨h1_⟩
     have n2_ : Aside0 (w123.heap[gb485]? = some (.cells #[.int .u8 0, .int .i64 0, .string (⟨#[]⟩ : ByteArray)] 25 (0, 0))) := ⟨h2_⟩
     have n3_ : Aside0 (w123.heap[gb506]? = some (.cells #[.bool false, .int .u64 0, .int .u64 0, .int .u64 0, .int .u64 0, .int .u64 0] 56 (0, 0))) := ⟨h3_⟩
     have n4_ : Aside0 (w.heap.size ≤ gb506) := ⟨h4_⟩
     have n5_ : Aside0 (w.heap.size ≤ gb506) := ⟨h5_⟩
     have n6_ : Aside0 (gb483 ≠ gb506) := ⟨h6_⟩
     have n7_ : Aside0 (gb506 ≠ gb483) := ⟨h7_⟩
     have n8_ : Aside0 (gb484 ≠ gb506) := ⟨h8_⟩
     have n9_ : Aside0 (gb506 ≠ gb484) := ⟨h9_⟩
     have n10_ : Aside0 (gb485 ≠ gb506) := ⟨h10_⟩
     have n11_ : Aside0 (gb506 ≠ gb485) := ⟨h11_⟩
     have n12_ : Aside0 (Below w.heap.size w w123) := ⟨h12_⟩
     clear BK483
     clear BK484
     clear BK485
     clear HB
     clear h0_ h1_ h2_ h3_ h4_ h5_ h6_ h7_ h8_ h9_ h10_ h11_ h12_
     have BK483 := n0_
     have BK484 := n1_
     have BK485 := n2_
     have BK506 := n3_
     have GW506 := n4_
     have GE506 := n5_
     have NB483_506 := n6_
     have NB506_483 := n7_
     have NB484_506 := n8_
     have NB506_484 := n9_
     have NB485_506 := n10_
     have NB506_485 := n11_
     have HB := n12_
     clear n0_ n1_ n2_ n3_ n4_ n5_ n6_ n7_ n8_ n9_ n10_ n11_ n12_
     have hHeld : w123.cell? ⟨gb483, 0, none⟩ = some (.int .u8 a0_0) ∧ w123.cell? ⟨gb483, 1, none⟩ = some (.int .i64 a0_1) ∧ w123.cell? ⟨gb483, 2, none⟩ = some (.string a0_2) ∧ w123.cell? ⟨gb484, 0, none⟩ = some (.int .u8 a1_0) ∧ w123.cell? ⟨gb484, 1, none⟩ = some (.int .i64 a1_1) ∧ w123.cell? ⟨gb484, 2, none⟩ = some (.string a1_2) := hS_
     refine norm_ (a' := ?_) ?_ ?_
     rotate_left
     ·simp only [putAll, Act.put, List.setIfInBounds_toArray, List.set_cons_zero, List.set_cons_succ]
      rfl
     refine one_ (i := 8) (N := none) #[true, true, true, true, true, true, true, true, true] rfl rfl (one_of HT_.out (by kernel_rfl)) (by decide) (fun K hK => ?_)
     have hs124 : w123.cell? ⟨gb506, 0, none⟩ = some (.bool false) := (blk_cell BK506.out 0).trans rfl
     have hfs124 := blk_frozen BK506.out 0
     have hns124_0 := NB483_506.out
     have hns124_1 := NB484_506.out
     have hns124_2 := NB485_506.out
     have hms124_0 := NB506_483.out
     have hms124_1 := NB506_484.out
     have hms124_2 := NB506_485.out
     have hs125 : w123.cell? ⟨gb506, 1, none⟩ = some (.int .u64 0) := (blk_cell BK506.out 1).trans rfl
     have hfs125 := blk_frozen BK506.out 1
     have hns125_0 := NB483_506.out
     have hns125_1 := NB484_506.out
     have hns125_2 := NB485_506.out
     have hms125_0 := NB506_483.out
     have hms125_1 := NB506_484.out
     have hms125_2 := NB506_485.out
     have hs126 : w123.cell? ⟨gb506, 2, none⟩ = some (.int .u64 0) := (blk_cell BK506.out 2).trans rfl
     have hfs126 := blk_frozen BK506.out 2
     have hns126_0 := NB483_506.out
     have hns126_1 := NB484_506.out
     have hns126_2 := NB485_506.out
     have hms126_0 := NB506_483.out
     have hms126_1 := NB506_484.out
     have hms126_2 := NB506_485.out
     have hs127 : w123.cell? ⟨gb506, 3, none⟩ = some (.int .u64 0) := (blk_cell BK506.out 3).trans rfl
     have hfs127 := blk_frozen BK506.out 3
     have hns127_0 := NB483_506.out
     have hns127_1 := NB484_506.out
     have hns127_2 := NB485_506.out
     have hms127_0 := NB506_483.out
     have hms127_1 := NB506_484.out
     have hms127_2 := NB506_485.out
     have hs128 : w123.cell? ⟨gb506, 4, none⟩ = some (.int .u64 0) := (blk_cell BK506.out 4).trans rfl
     have hfs128 := blk_frozen BK506.out 4
     have hns128_0 := NB483_506.out
     have hns128_1 := NB484_506.out
     have hns128_2 := NB485_506.out
     have hms128_0 := NB506_483.out
     have hms128_1 := NB506_484.out
     have hms128_2 := NB506_485.out
     have hs129 : w123.cell? ⟨gb506, 5, none⟩ = some (.int .u64 0) := (blk_cell BK506.out 5).trans rfl
     have hfs129 := blk_frozen BK506.out 5
     have hns129_0 := NB483_506.out
     have hns129_1 := NB484_506.out
     have hns129_2 := NB485_506.out
     have hms129_0 := NB506_483.out
     have hms129_1 := NB506_484.out
     have hms129_2 := NB506_485.out
     refine skip_ (w1 := ?_) (by rfl) rfl ?_ ?_
     rotate_left
     ·go_simp
      rfl
     refine hK.out _ _ ⟨((cell_far (p := ⟨gb506, _, none⟩) NB483_506.out _).trans (((cell_far (p := ⟨gb506, _, none⟩) NB483_506.out _).trans (((cell_far (p := ⟨gb506, _, none⟩) NB483_506.out _).trans (((cell_far (p := ⟨gb506, _, none⟩) NB483_506.out _).trans (((cell_far (p := ⟨gb506, _, none⟩) NB483_506.out _).trans (((cell_far (p := ⟨gb506, _, none⟩) NB483_506.out _).trans (hHeld.1)))))))))))), ((cell_far (p := ⟨gb506, _, none⟩) NB483_506.out _).trans (((cell_far (p := ⟨gb506, _, none⟩) NB483_506.out _).trans (((cell_far (p := ⟨gb506, _, none⟩) NB483_506.out _).trans (((cell_far (p := ⟨gb506, _, none⟩) NB483_506.out _).trans (((cell_far (p := ⟨gb506, _, none⟩) NB483_506.out _).trans (((cell_far (p := ⟨gb506, _, none⟩) NB483_506.out _).trans (hHeld.2.1)))))))))))), ((cell_far (p := ⟨gb506, _, none⟩) NB483_506.out _).trans (((cell_far (p := ⟨gb506, _, none⟩) NB483_506.out _).trans (((cell_far (p := ⟨gb506, _, none⟩) NB483_506.out _).trans (((cell_far (p := ⟨gb506, _, none⟩) NB483_506.out _).trans (((cell_far (p := ⟨gb506, _, none⟩) NB483_506.out _).trans (((cell_far (p := ⟨gb506, _, none⟩) NB483_506.out _).trans (hHeld.2.2.1)))))))))))), ((cell_far (p := ⟨gb506, _, none⟩) NB484_506.out _).trans (((cell_far (p := ⟨gb506, _, none⟩) NB484_506.out _).trans (((cell_far (p := ⟨gb506, _, none⟩) NB484_506.out _).trans (((cell_far (p := ⟨gb506, _, none⟩) NB484_506.out _).trans (((cell_far (p := ⟨gb506, _, none⟩) NB484_506.out _).trans (((cell_far (p := ⟨gb506, _, none⟩) NB484_506.out _).trans (hHeld.2.2.2.1)))))))))))), ((cell_far (p := ⟨gb506, _, none⟩) NB484_506.out _).trans (((cell_far (p := ⟨gb506, _, none⟩) NB484_506.out _).trans (((cell_far (p := ⟨gb506, _, none⟩) NB484_506.out _).trans (((cell_far (p := ⟨gb506, _, none⟩) NB484_506.out _).trans (((cell_far (p := ⟨gb506, _, none⟩) NB484_506.out _).trans (((cell_far (p := ⟨gb506, _, none⟩) NB484_506.out _).trans (hHeld.2.2.2.2.1)))))))))))), ((cell_far (p := ⟨gb506, _, none⟩) NB484_506.out _).trans (((cell_far (p := ⟨gb506, _, none⟩) NB484_506.out _).trans (((cell_far (p := ⟨gb506, _, none⟩) NB484_506.out _).trans (((cell_far (p := ⟨gb506, _, none⟩) NB484_506.out _).trans (((cell_far (p := ⟨gb506, _, none⟩) NB484_506.out _).trans (((cell_far (p := ⟨gb506, _, none⟩) NB484_506.out _).trans (hHeld.2.2.2.2.2))))))))))))⟩ (fun hHeld => ?_)
     clear hK K
     refine done_ (done_of HT_.out (by kernel_rfl)) ?_
     have hnb130 := NB483_484.out
     have hnc130 := NB484_483.out
     have hnb131 := NB483_485.out
     have hnc131 := NB485_483.out
     have hnb132 := NB483_506.out
     have hnc132 := NB506_483.out
     have hcz133_0 : w123.cell? ⟨gb483, 0, none⟩ = some (.int .u8 a0_0) := (blk_cell BK483.out 0).trans rfl
     have hcz133_1 : w123.cell? ⟨gb483, 1, none⟩ = some (.int .i64 a0_1) := (blk_cell BK483.out 1).trans rfl
     have hcz133_2 : w123.cell? ⟨gb483, 2, none⟩ = some (.string a0_2) := (blk_cell BK483.out 2).trans rfl
     have hfz133_0 := blk_frozen BK483.out 0
     have hfz133_1 := blk_frozen BK483.out 1
     have hfz133_2 := blk_frozen BK483.out 2
     have hnb134 := NB484_485.out
     have hnc134 := NB485_484.out
     have hnb135 := NB484_506.out
     have hnc135 := NB506_484.out
     have hcz136_0 : w123.cell? ⟨gb484, 0, none⟩ = some (.int .u8 a1_0) := (blk_cell BK484.out 0).trans rfl
     have hcz136_1 : w123.cell? ⟨gb484, 1, none⟩ = some (.int .i64 a1_1) := (blk_cell BK484.out 1).trans rfl
     have hcz136_2 : w123.cell? ⟨gb484, 2, none⟩ = some (.string a1_2) := (blk_cell BK484.out 2).trans rfl
     have hfz136_0 := blk_frozen BK484.out 0
     have hfz136_1 := blk_frozen BK484.out 1
     have hfz136_2 := blk_frozen BK484.out 2
     have hnb137 := NB506_485.out
     have hnc137 := NB485_506.out
     have hcz138_0 : w123.cell? ⟨gb506, 0, none⟩ = some (.bool false) := (blk_cell BK506.out 0).trans rfl
     have hcz138_1 : w123.cell? ⟨gb506, 1, none⟩ = some (.int .u64 0) := (blk_cell BK506.out 1).trans rfl
     have hcz138_2 : w123.cell? ⟨gb506, 2, none⟩ = some (.int .u64 0) := (blk_cell BK506.out 2).trans rfl
     have hcz138_3 : w123.cell? ⟨gb506, 3, none⟩ = some (.int .u64 0) := (blk_cell BK506.out 3).trans rfl
     have hcz138_4 : w123.cell? ⟨gb506, 4, none⟩ = some (.int .u64 0) := (blk_cell BK506.out 4).trans rfl
     have hcz138_5 : w123.cell? ⟨gb506, 5, none⟩ = some (.int .u64 0) := (blk_cell BK506.out 5).trans rfl
     have hfz138_0 := blk_frozen BK506.out 0
     have hfz138_1 := blk_frozen BK506.out 1
     have hfz138_2 := blk_frozen BK506.out 2
     have hfz138_3 := blk_frozen BK506.out 3
     have hfz138_4 := blk_frozen BK506.out 4
     have hfz138_5 := blk_frozen BK506.out 5
     try go_wp2_with (first | ((with_reducible refine gate_callee (f := 65) rfl ?_); refine goesL_ (some 37) rfl rfl Tryd.func65 (by kernel_rfl) rfl #[.int .u8 3, .agg #[.bool t500, .int .u64 t501, .int .u64 t502, .int .u64 t503, .int .u64 t504, .int .u64 t505]] rfl (by (try simp only [List.map_toArray, List.map_cons, List.map_nil]); first | done | rfl | (simp only [List.length_drop, List.length_take]; rfl)) ?_; (with_reducible refine (rf17_answer.calls 3 t500 t501 t502 t503 t504 t505 t507 t508 t509 t510 _ A117.out).mono ?_); rintro e w139 ⟨rfl, hb⟩; refine ⟨_, rfl, ?_⟩; have n0_ := Aside0.mk (blk_below (g := gb483) (o := .cells #[.int .u8 a0_0, .int .i64 a0_1, .string a0_2] 25 (0, 0)) (by (with_reducible repeat (first | refine blk_drewN ?_ _ | refine blk_drew ?_ | refine blk_alloc ?_ _ | refine blk_far ?_ NB483_506.out _)); exact BK483.out) hb); have n1_ := Aside0.mk (blk_below (g := gb484) (o := .cells #[.int .u8 a1_0, .int .i64 a1_1, .string a1_2] 25 (0, 0)) (by (with_reducible repeat (first | refine blk_drewN ?_ _ | refine blk_drew ?_ | refine blk_alloc ?_ _ | refine blk_far ?_ NB484_506.out _)); exact BK484.out) hb); have n2_ := Aside0.mk (blk_below (g := gb485) (o := .cells #[.int .u8 0, .int .i64 0, .string (⟨#[]⟩ : ByteArray)] 25 (0, 0)) (by (with_reducible repeat (first | refine blk_drewN ?_ _ | refine blk_drew ?_ | refine blk_alloc ?_ _ | refine blk_far ?_ NB485_506.out _)); exact BK485.out) hb); have n3_ := Aside0.mk (blk_below (g := gb506) (o := .cells #[.bool t500, .int .u64 t501, .int .u64 t502, .int .u64 t503, .int .u64 t504, .int .u64 t505] 56 (0, 0)) (by (with_reducible repeat first | apply blk_drewN | apply blk_drew | apply blk_alloc); refine blk_put (cs := #[.bool t500, .int .u64 t501, .int .u64 t502, .int .u64 t503, .int .u64 t504, .int .u64 0]) ?_ 5 _ rfl; refine blk_put (cs := #[.bool t500, .int .u64 t501, .int .u64 t502, .int .u64 t503, .int .u64 0, .int .u64 0]) ?_ 4 _ rfl; refine blk_put (cs := #[.bool t500, .int .u64 t501, .int .u64 t502, .int .u64 0, .int .u64 0, .int .u64 0]) ?_ 3 _ rfl; refine blk_put (cs := #[.bool t500, .int .u64 t501, .int .u64 0, .int .u64 0, .int .u64 0, .int .u64 0]) ?_ 2 _ rfl; refine blk_put (cs := #[.bool t500, .int .u64 0, .int .u64 0, .int .u64 0, .int .u64 0, .int .u64 0]) ?_ 1 _ rfl; refine blk_put (cs := #[.bool false, .int .u64 0, .int .u64 0, .int .u64 0, .int .u64 0, .int .u64 0]) ?_ 0 _ rfl; (with_reducible repeat first | apply blk_drewN | apply blk_drew | apply blk_alloc); exact BK506.out) hb); have n4_ := Aside0.mk (below_step (by repeat (first | (with_reducible first | exact HB.out | apply below_alloc | apply pw_below_drewN | apply below_drew1 | refine below_set ?_ (Aside0.out (by assumption))) | exact HB.out)) hb); clear BK483; clear BK484; clear BK485; clear BK506; clear HB; have BK483 := n0_; have BK484 := n1_; have BK485 := n2_; have BK506 := n3_; have HB := n4_; clear n0_ n1_ n2_ n3_ n4_; (try clear hb); (try clear hb2); (try clear hk); (try clear hi); have hcz140_0 : w139.cell? ⟨gb485, 0, none⟩ = some (.int .u8 0) := (blk_cell BK485.out 0).trans rfl; have hcz140_1 : w139.cell? ⟨gb485, 1, none⟩ = some (.int .i64 0) := (blk_cell BK485.out 1).trans rfl; have hcz140_2 : w139.cell? ⟨gb485, 2, none⟩ = some (.string (⟨#[]⟩ : ByteArray)) := (blk_cell BK485.out 2).trans rfl; have hfz140_0 := blk_frozen BK485.out 0; have hfz140_1 := blk_frozen BK485.out 1; have hfz140_2 := blk_frozen BK485.out 2))
     refine bodyPost_ret (results_ct rfl _ _ gb485 25 #[.int .u8 t507, .int .i64 t508, .string t509] (0, 0) _ rfl (by (with_reducible repeat first | apply blk_drewN | apply blk_drew | apply blk_alloc); refine blk_put (cs := #[.int .u8 t507, .int .i64 t508, .string (⟨#[]⟩ : ByteArray)]) ?_ 2 _ rfl; (with_reducible repeat first | apply blk_drewN | apply blk_drew | apply blk_alloc); refine blk_put (cs := #[.int .u8 t507, .int .i64 0, .string (⟨#[]⟩ : ByteArray)]) ?_ 1 _ rfl; (with_reducible repeat first | apply blk_drewN | apply blk_drew | apply blk_alloc); refine blk_put (cs := #[.int .u8 0, .int .i64 0, .string (⟨#[]⟩ : ByteArray)]) ?_ 0 _ rfl; (with_reducible repeat first | apply blk_drewN | apply blk_drew | apply blk_alloc); exact BK485.out) Tryd.underlying25 rfl (by kernel_rfl)) rfl ?_
     exact ⟨by first | rfl | (simp [errW_none, errW_some] <;> rfl) | (simp [*, errW_none, errW_some] <;> rfl), by repeat (first | (with_reducible first | exact HB.out | apply below_alloc | apply pw_below_drewN | apply below_drew1 | refine below_set ?_ (Aside0.out (by assumption))) | exact HB.out)⟩
end Go.Proofs.YtbodlnoipkommaaDoor.Q

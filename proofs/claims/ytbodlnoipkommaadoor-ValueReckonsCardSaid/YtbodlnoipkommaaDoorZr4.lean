/- Merged out of this session's texts: Qxf60, Wn, Wo, Wp, Wk, Wq, Wr, Ws, Qxf79, Qxf51, Wt, Qxf56, Wg, Qxf74, Qxf42, Qxf77, Qxf47, Qxf11, Qxf28, Qxf29, Pa -/
import Derived.Test.YtbodlnoipkommaaDoorZr3
import Derived.Lib.AppendIntMem
import Derived.Lib.ItoaLen
import Derived.Deep.RegionHeld3
import Derived.Deep.AppendLies
import Derived.Lib.SlBytesConst
import Derived.LoopTactic
import Derived.Lib.FrozenHead2
import Derived.StillTactics
import Derived.StillTailTactics
import Derived.WalkSpells
import Derived.OwnWalk
import Derived.Laws.Pointers
import Derived.Laws.BitsAllLaws
import Derived.Lib.ReplaceLaws
import Derived.Lib.IndexBytes
set_option linter.unusedVariables false
set_option linter.unusedSimpArgs false
namespace Go.Proofs.YtbodlnoipkommaaDoor.Q
open Go.RowKit Go.Proofs.YtbodlnoipkommaaDoorW.PrintWords Go.Proofs.YtbodlnoipkommaaDoorW.PrintLast Go.Proofs.YtbodlnoipkommaaDoorW.PrintMore
attribute [local go_sem] max2_int min2_int max_two min_two max_three min_three max_four min_four
set_option linter.unusedVariables false
set_option linter.unusedSimpArgs false
def vw_told.f (a0_0 : Int) (a0_1 : Int) (a1 : Int) : Option (Int × Int × ByteArray × Int) := if a0_0 = ((wrap64 (a0_1)) / 9223372036854775808) then (some (a1, wrap64 (a0_1), (⟨#[]⟩ : ByteArray), 0)) else (some (0, 0, (⟨#[]⟩ : ByteArray), 271))
set_option maxHeartbeats 8000000 in
set_option maxRecDepth 100000 in
theorem vw_told.calls (a0_0 : Int) (a0_1 : Int) (a1 : Int) (r1 : Int) (r2 : Int) (r3 : ByteArray) (r4 : Int) (w : World) (h : vw_told.f a0_0 a0_1 a1 = some (r1, r2, r3, r4)) :
  Calls Tryd.prog 60 #[.agg #[.int .i64 a0_0, .int .u64 a0_1], .int .u8 a1] w fun e w' => e = .returned (.tuple #[.agg #[.int .u8 r1, .int .i64 r2, .string r3], .int .i64 r4]) ∧ Below w.heap.size w w' := by
 have hu49 := Tryd.underlying49
 have hu25 := Tryd.underlying25
 have HB := Aside0.mk (Below.refl w.heap.size w)
 have H : (if a0_0 = ((wrap64 (a0_1)) / 9223372036854775808) then (some (a1, wrap64 (a0_1), (⟨#[]⟩ : ByteArray), 0)) else (some (0, 0, (⟨#[]⟩ : ByteArray), 271))) = some (r1, r2, r3, r4) := h
 clear h
 by_cases c3 : a0_0 = ((wrap64 (a0_1)) / 9223372036854775808)
 ·rw [if_pos c3] at H
  have c3b0 : (a0_0 == ((wrap64 (a0_1)) / 9223372036854775808)) = true := beq_iff_eq.mpr c3
  have c3b1 : (a0_0 != ((wrap64 (a0_1)) / 9223372036854775808)) = false := bne_eq_false_iff_eq.mpr c3
  clear c3
  simp only [Option.some.injEq, Prod.mk.injEq] at H
  obtain ⟨rfl, rfl, rfl, rfl⟩ := H
  go_enter Tryd.func60, Tryd.ntmps60
  go_wp2_with (first | ((with_reducible refine gate_dst (N := 2) rfl ?_); refine box_event ?hg (N := 2) ?hd (cs := #[.int .i64 a0_0, .int .u64 a0_1]) (t := 49) ?hr ?_; (case hd => rfl); (case hg => rfl); (case hr => first | (go_simp; done) | (go_simp; rfl)); intro gb161 hg w4 hbox hb; have n0_ := Aside0.mk (below_step (bw HB.out) hb); have n1_ := Aside0.mk (hbox); have n2_ := Aside0.mk ((by rw [hg]; exact (below_size (bw HB.out)) : w.heap.size ≤ gb161)); have n3_ := Aside0.mk ((by rw [hg]; exact (below_size (bw HB.out)) : w.heap.size ≤ gb161)); clear HB; have HB := n0_; have BK161 := n1_; have GW161 := n2_; have GE161 := n3_; clear n0_ n1_ n2_ n3_; clear hb hbox hg) | ((with_reducible refine gate_dst (N := 4) rfl ?_); refine box_event ?hg (N := 4) ?hd (cs := #[.int .u8 0, .int .i64 0, .string (⟨#[]⟩ : ByteArray)]) (t := 25) ?hr ?_; (case hd => rfl); (case hg => rfl); (case hr => first | (go_simp; done) | (go_simp; rfl)); intro gb162 hg w5 hbox hb; have n0_ := Aside0.mk (blk_below (bk BK161.out) hb); have n1_ := Aside0.mk (below_step (by repeat (first | (with_reducible first | exact HB.out | apply below_alloc | apply pw_below_drewN | apply below_drew1 | refine below_set ?_ GE161.out) | exact HB.out)) hb); have n2_ := Aside0.mk (hbox); have n3_ := Aside0.mk ((by rw [hg]; exact (below_size (by repeat (first | (with_reducible first | exact HB.out | apply below_alloc | apply pw_below_drewN | apply below_drew1 | refine below_set ?_ GE161.out) | exact HB.out))) : w.heap.size ≤ gb162)); have n4_ := Aside0.mk ((by rw [hg]; exact (below_size (by repeat (first | (with_reducible first | exact HB.out | apply below_alloc | apply pw_below_drewN | apply below_drew1 | refine below_set ?_ GE161.out) | exact HB.out))) : w.heap.size ≤ gb162)); have n5_ := Aside0.mk ((by rw [hg]; exact Nat.ne_of_lt (blk_lt (g := gb161) (o := .cells #[.int .i64 a0_0, .int .u64 a0_1] 49 (0, 0)) (bk BK161.out)) : gb161 ≠ gb162)); have n6_ := Aside0.mk ((by rw [hg]; exact Nat.ne_of_gt (blk_lt (g := gb161) (o := .cells #[.int .i64 a0_0, .int .u64 a0_1] 49 (0, 0)) (bk BK161.out)) : gb162 ≠ gb161)); clear BK161; clear HB; have BK161 := n0_; have HB := n1_; have BK162 := n2_; have GW162 := n3_; have GE162 := n4_; have NB161_162 := n5_; have NB162_161 := n6_; clear n0_ n1_ n2_ n3_ n4_ n5_ n6_; clear hb hbox hg; have hnb6 := NB161_162.out; have hnc6 := NB162_161.out; have hcz7_0 : w5.cell? ⟨gb161, 0, none⟩ = some (.int .i64 a0_0) := (blk_cell BK161.out 0).trans rfl; have hcz7_1 : w5.cell? ⟨gb161, 1, none⟩ = some (.int .u64 a0_1) := (blk_cell BK161.out 1).trans rfl; have hfz7_0 := blk_frozen BK161.out 0; have hfz7_1 := blk_frozen BK161.out 1; have hcz8_0 : w5.cell? ⟨gb162, 0, none⟩ = some (.int .u8 0) := (blk_cell BK162.out 0).trans rfl; have hcz8_1 : w5.cell? ⟨gb162, 1, none⟩ = some (.int .i64 0) := (blk_cell BK162.out 1).trans rfl; have hcz8_2 : w5.cell? ⟨gb162, 2, none⟩ = some (.string (⟨#[]⟩ : ByteArray)) := (blk_cell BK162.out 2).trans rfl; have hfz8_0 := blk_frozen BK162.out 0; have hfz8_1 := blk_frozen BK162.out 1; have hfz8_2 := blk_frozen BK162.out 2))
  refine bodyPost_ret (results_ct rfl _ _ gb162 25 #[.int .u8 a1, .int .i64 (wrap64 (a0_1)), .string (⟨#[]⟩ : ByteArray)] (0, 0) _ rfl (by (with_reducible repeat first | apply blk_drewN | apply blk_drew | apply blk_alloc); refine blk_put (cs := #[.int .u8 a1, .int .i64 (wrap64 (a0_1)), .string (⟨#[]⟩ : ByteArray)]) ?_ 2 _ rfl; (with_reducible repeat first | apply blk_drewN | apply blk_drew | apply blk_alloc); refine blk_put (cs := #[.int .u8 a1, .int .i64 0, .string (⟨#[]⟩ : ByteArray)]) ?_ 1 _ rfl; (with_reducible repeat first | apply blk_drewN | apply blk_drew | apply blk_alloc); refine blk_put (cs := #[.int .u8 0, .int .i64 0, .string (⟨#[]⟩ : ByteArray)]) ?_ 0 _ rfl; (with_reducible repeat first | apply blk_drewN | apply blk_drew | apply blk_alloc); exact BK162.out) Tryd.underlying25 rfl (by kernel_rfl)) rfl ?_
  exact ⟨by first | rfl | (simp [errW_none, errW_some] <;> rfl) | (simp [*, errW_none, errW_some] <;> rfl), by repeat (first | (with_reducible first | exact HB.out | apply below_alloc | apply pw_below_drewN | apply below_drew1 | refine below_set ?_ (Aside0.out (by assumption))) | exact HB.out)⟩
 ·rw [if_neg c3] at H
  have c3b0 : (a0_0 == ((wrap64 (a0_1)) / 9223372036854775808)) = false := beq_eq_false_iff_ne.mpr c3
  have c3b1 : (a0_0 != ((wrap64 (a0_1)) / 9223372036854775808)) = true := bne_iff_ne.mpr c3
  simp only [Option.some.injEq, Prod.mk.injEq] at H
  obtain ⟨rfl, rfl, rfl, rfl⟩ := H
  go_enter Tryd.func60, Tryd.ntmps60
  go_wp2_with (first | ((with_reducible refine gate_dst (N := 2) rfl ?_); refine box_event ?hg (N := 2) ?hd (cs := #[.int .i64 a0_0, .int .u64 a0_1]) (t := 49) ?hr ?_; (case hd => rfl); (case hg => rfl); (case hr => first | (go_simp; done) | (go_simp; rfl)); intro gb161 hg w9 hbox hb; have n0_ := Aside0.mk (below_step (bw HB.out) hb); have n1_ := Aside0.mk (hbox); have n2_ := Aside0.mk ((by rw [hg]; exact (below_size (bw HB.out)) : w.heap.size ≤ gb161)); have n3_ := Aside0.mk ((by rw [hg]; exact (below_size (bw HB.out)) : w.heap.size ≤ gb161)); clear HB; have HB := n0_; have BK161 := n1_; have GW161 := n2_; have GE161 := n3_; clear n0_ n1_ n2_ n3_; clear hb hbox hg) | ((with_reducible refine gate_dst (N := 4) rfl ?_); refine box_event ?hg (N := 4) ?hd (cs := #[.int .u8 0, .int .i64 0, .string (⟨#[]⟩ : ByteArray)]) (t := 25) ?hr ?_; (case hd => rfl); (case hg => rfl); (case hr => first | (go_simp; done) | (go_simp; rfl)); intro gb162 hg w10 hbox hb; have n0_ := Aside0.mk (blk_below (bk BK161.out) hb); have n1_ := Aside0.mk (below_step (by repeat (first | (with_reducible first | exact HB.out | apply below_alloc | apply pw_below_drewN | apply below_drew1 | refine below_set ?_ GE161.out) | exact HB.out)) hb); have n2_ := Aside0.mk (hbox); have n3_ := Aside0.mk ((by rw [hg]; exact (below_size (by repeat (first | (with_reducible first | exact HB.out | apply below_alloc | apply pw_below_drewN | apply below_drew1 | refine below_set ?_ GE161.out) | exact HB.out))) : w.heap.size ≤ gb162)); have n4_ := Aside0.mk ((by rw [hg]; exact (below_size (by repeat (first | (with_reducible first | exact HB.out | apply below_alloc | apply pw_below_drewN | apply below_drew1 | refine below_set ?_ GE161.out) | exact HB.out))) : w.heap.size ≤ gb162)); have n5_ := Aside0.mk ((by rw [hg]; exact Nat.ne_of_lt (blk_lt (g := gb161) (o := .cells #[.int .i64 a0_0, .int .u64 a0_1] 49 (0, 0)) (bk BK161.out)) : gb161 ≠ gb162)); have n6_ := Aside0.mk ((by rw [hg]; exact Nat.ne_of_gt (blk_lt (g := gb161) (o := .cells #[.int .i64 a0_0, .int .u64 a0_1] 49 (0, 0)) (bk BK161.out)) : gb162 ≠ gb161)); clear BK161; clear HB; have BK161 := n0_; have HB := n1_; have BK162 := n2_; have GW162 := n3_; have GE162 := n4_; have NB161_162 := n5_; have NB162_161 := n6_; clear n0_ n1_ n2_ n3_ n4_ n5_ n6_; clear hb hbox hg; have hnb11 := NB161_162.out; have hnc11 := NB162_161.out; have hcz12_0 : w10.cell? ⟨gb161, 0, none⟩ = some (.int .i64 a0_0) := (blk_cell BK161.out 0).trans rfl; have hcz12_1 : w10.cell? ⟨gb161, 1, none⟩ = some (.int .u64 a0_1) := (blk_cell BK161.out 1).trans rfl; have hfz12_0 := blk_frozen BK161.out 0; have hfz12_1 := blk_frozen BK161.out 1; have hcz13_0 : w10.cell? ⟨gb162, 0, none⟩ = some (.int .u8 0) := (blk_cell BK162.out 0).trans rfl; have hcz13_1 : w10.cell? ⟨gb162, 1, none⟩ = some (.int .i64 0) := (blk_cell BK162.out 1).trans rfl; have hcz13_2 : w10.cell? ⟨gb162, 2, none⟩ = some (.string (⟨#[]⟩ : ByteArray)) := (blk_cell BK162.out 2).trans rfl; have hfz13_0 := blk_frozen BK162.out 0; have hfz13_1 := blk_frozen BK162.out 1; have hfz13_2 := blk_frozen BK162.out 2))
  refine bodyPost_ret (results_ct rfl _ _ gb162 25 #[.int .u8 0, .int .i64 0, .string (⟨#[]⟩ : ByteArray)] (0, 0) _ rfl (by (with_reducible repeat first | apply blk_drewN | apply blk_drew | apply blk_alloc); refine blk_put (cs := #[.int .u8 0, .int .i64 0, .string (⟨#[]⟩ : ByteArray)]) ?_ 2 _ rfl; (with_reducible repeat first | apply blk_drewN | apply blk_drew | apply blk_alloc); refine blk_put (cs := #[.int .u8 0, .int .i64 0, .string (⟨#[]⟩ : ByteArray)]) ?_ 1 _ rfl; (with_reducible repeat first | apply blk_drewN | apply blk_drew | apply blk_alloc); refine blk_put (cs := #[.int .u8 0, .int .i64 0, .string (⟨#[]⟩ : ByteArray)]) ?_ 0 _ rfl; (with_reducible repeat first | apply blk_drewN | apply blk_drew | apply blk_alloc); exact BK162.out) Tryd.underlying25 rfl (by kernel_rfl)) rfl ?_
  exact ⟨by first | rfl | (simp [errW_none, errW_some] <;> rfl) | (simp [*, errW_none, errW_some] <;> rfl), by repeat (first | (with_reducible first | exact HB.out | apply below_alloc | apply pw_below_drewN | apply below_drew1 | refine below_set ?_ (Aside0.out (by assumption))) | exact HB.out)⟩
end Go.Proofs.YtbodlnoipkommaaDoor.Q
namespace Go.Proofs.YtbodlnoipkommaaDoor.Wn
open Go.RowKit Go.Proofs.YtbodlnoipkommaaDoor.Q Go.Proofs.YtbodlnoipkommaaDoor.We Go.Proofs.YtbodlnoipkommaaDoor.Wh Go.Proofs.YtbodlnoipkommaaDoor.Wi Go.Proofs.YtbodlnoipkommaaDoor.Wj Go.Proofs.YtbodlnoipkommaaDoor.Wm Go.Proofs.YtbodlnoipkommaaDoorW.PrintWords Go.Proofs.YtbodlnoipkommaaDoorW.PrintLast Go.Proofs.YtbodlnoipkommaaDoorW.PrintMore
theorem bcells {W w1 : World} (hb : Below W.heap.size W w1) (b : Nat) (h : b < W.heap.size) : (∀ o, w1.cell? ⟨b, o, none⟩ = W.cell? ⟨b, o, none⟩) ∧ (∀ o, w1.frozen? ⟨b, o, none⟩ = W.frozen? ⟨b, o, none⟩) ∧ b < w1.heap.size :=
  ⟨fun o => hb.cell (p := ⟨b, o, none⟩) h, fun o => hb.frozen (p := ⟨b, o, none⟩) h, Nat.lt_of_lt_of_le h hb.size⟩
set_option maxRecDepth 100000 in
set_option maxHeartbeats 4000000 in
theorem sum_57_w2 (k0 k1 n0 n1 : Int) (s0 s1 : ByteArray) (w : World) (ha : value_asked.f k0 n0 s0 k1 n1 s1 = some (false, 2)) :
    Calls Tryd.prog 55 #[.agg #[.int .u8 k0, .int .i64 n0, .string s0], .agg #[.int .u8 k1, .int .i64 n1, .string s1], .func (.func 57) #[] #[]] w fun e w' => e = .returned (.tuple #[.agg #[.int .u8 0, .int .i64 0, .string ⟨#[]⟩], .int .i64 2]) ∧ Below w.heap.size w w' := by
  have N := Aside0.mk (value_asked.calls k0 n0 s0 k1 n1 s1 _ _ · ha)
  clear ha
  go_enter Tryd.func55, Tryd.ntmps55
  go_wp2_with fail
  refine (N.out _).mono ?_
  rintro e w1 ⟨rfl, hb1⟩
  obtain ⟨c10, f10, l10⟩ := bcells hb1 (w.heap.size) (by first | assumption | (simp; done) | (simp; omega) | omega)
  obtain ⟨c11, f11, l11⟩ := bcells hb1 (w.heap.size + 1) (by first | assumption | (simp; done) | (simp; omega) | omega)
  obtain ⟨c12, f12, l12⟩ := bcells hb1 (w.heap.size + 2) (by first | assumption | (simp; done) | (simp; omega) | omega)
  obtain ⟨c13, f13, l13⟩ := bcells hb1 (w.heap.size + 3) (by first | assumption | (simp; done) | (simp; omega) | omega)
  replace hb1 := Aside0.mk hb1
  go_wp2_with fail
  simp [bodyPost, results, Tryd.results55, go_sem, c13, f13]
  exact set_ok (set_ok (set_ok (below_step (below_alloc (below_alloc (below_alloc (below_alloc (Below.refl _ _) _) _) _) _) hb1.out) (by omega) _) (by omega) _) (by omega) _
set_option maxRecDepth 100000 in
set_option maxHeartbeats 4000000 in
theorem sum_57_w270 (k0 k1 n0 n1 : Int) (s0 s1 : ByteArray) (w : World) (ha : value_asked.f k0 n0 s0 k1 n1 s1 = some (false, 270)) :
    Calls Tryd.prog 55 #[.agg #[.int .u8 k0, .int .i64 n0, .string s0], .agg #[.int .u8 k1, .int .i64 n1, .string s1], .func (.func 57) #[] #[]] w fun e w' => e = .returned (.tuple #[.agg #[.int .u8 0, .int .i64 0, .string ⟨#[]⟩], .int .i64 270]) ∧ Below w.heap.size w w' := by
  have N := Aside0.mk (value_asked.calls k0 n0 s0 k1 n1 s1 _ _ · ha)
  clear ha
  go_enter Tryd.func55, Tryd.ntmps55
  go_wp2_with fail
  refine (N.out _).mono ?_
  rintro e w1 ⟨rfl, hb1⟩
  obtain ⟨c10, f10, l10⟩ := bcells hb1 (w.heap.size) (by first | assumption | (simp; done) | (simp; omega) | omega)
  obtain ⟨c11, f11, l11⟩ := bcells hb1 (w.heap.size + 1) (by first | assumption | (simp; done) | (simp; omega) | omega)
  obtain ⟨c12, f12, l12⟩ := bcells hb1 (w.heap.size + 2) (by first | assumption | (simp; done) | (simp; omega) | omega)
  obtain ⟨c13, f13, l13⟩ := bcells hb1 (w.heap.size + 3) (by first | assumption | (simp; done) | (simp; omega) | omega)
  replace hb1 := Aside0.mk hb1
  go_wp2_with fail
  simp [bodyPost, results, Tryd.results55, go_sem, c13, f13]
  exact set_ok (set_ok (set_ok (below_step (below_alloc (below_alloc (below_alloc (below_alloc (Below.refl _ _) _) _) _) _) hb1.out) (by omega) _) (by omega) _) (by omega) _
set_option maxRecDepth 100000 in
set_option maxHeartbeats 4000000 in
theorem sum_57_null (k0 k1 n0 n1 : Int) (s0 s1 : ByteArray) (w : World) (ha : value_asked.f k0 n0 s0 k1 n1 s1 = some (true, 0)) :
    Calls Tryd.prog 55 #[.agg #[.int .u8 k0, .int .i64 n0, .string s0], .agg #[.int .u8 k1, .int .i64 n1, .string s1], .func (.func 57) #[] #[]] w fun e w' => e = .returned (.tuple #[.agg #[.int .u8 0, .int .i64 0, .string ⟨#[]⟩], .int .i64 0]) ∧ Below w.heap.size w w' := by
  have N := Aside0.mk (value_asked.calls k0 n0 s0 k1 n1 s1 _ _ · ha)
  clear ha
  go_enter Tryd.func55, Tryd.ntmps55
  go_wp2_with fail
  refine (N.out _).mono ?_
  rintro e w1 ⟨rfl, hb1⟩
  obtain ⟨c10, f10, l10⟩ := bcells hb1 (w.heap.size) (by first | assumption | (simp; done) | (simp; omega) | omega)
  obtain ⟨c11, f11, l11⟩ := bcells hb1 (w.heap.size + 1) (by first | assumption | (simp; done) | (simp; omega) | omega)
  obtain ⟨c12, f12, l12⟩ := bcells hb1 (w.heap.size + 2) (by first | assumption | (simp; done) | (simp; omega) | omega)
  obtain ⟨c13, f13, l13⟩ := bcells hb1 (w.heap.size + 3) (by first | assumption | (simp; done) | (simp; omega) | omega)
  replace hb1 := Aside0.mk hb1
  go_wp2_with fail
  simp [bodyPost, results, Tryd.results55, go_sem, c13, f13]
  exact set_ok (set_ok (set_ok (below_step (below_alloc (below_alloc (below_alloc (below_alloc (Below.refl _ _) _) _) _) _) hb1.out) (by omega) _) (by omega) _) (by omega) _
set_option maxRecDepth 100000 in
set_option maxHeartbeats 4000000 in
theorem sum_57_ii (n0 n1 : Int) (s0 s1 : ByteArray) (x0 x1 y0 y1 r0 r1 m1 m2 : Int) (m3 : ByteArray) (m4 : Int) (w : World) (ha : value_asked.f 2 n0 s0 2 n1 s1 = some (false, 0))
    (hx : value_of.f n0 = some (x0, x1)) (hy : value_of.f n1 = some (y0, y1)) (hp : vw_plus.f x0 x1 y0 y1 = some (r0, r1)) (hm : vw_told.f r0 r1 2 = some (m1, m2, m3, m4)) :
    Calls Tryd.prog 55 #[.agg #[.int .u8 2, .int .i64 n0, .string s0], .agg #[.int .u8 2, .int .i64 n1, .string s1], .func (.func 57) #[] #[]] w fun e w' => e = .returned (.tuple #[.agg #[.int .u8 m1, .int .i64 m2, .string m3], .int .i64 m4]) ∧ Below w.heap.size w w' := by
  have N := Aside0.mk (value_asked.calls 2 n0 s0 2 n1 s1 _ _ · ha)
  have G := Aside0.mk (fun A T B W a0 a1 a2 b0 b1 b2 t0 => both_84_57 A T B 2 n0 s0 2 n1 s1 x0 x1 y0 y1 r0 r1 W a0 a1 a2 b0 b1 b2 t0 hx hy hp)
  have D := Aside0.mk (vw_told.calls r0 r1 2 m1 m2 m3 m4 · hm)
  clear hx hy hp hm
  clear ha
  go_enter Tryd.func55, Tryd.ntmps55
  go_wp2_with fail
  refine (N.out _).mono ?_
  rintro e w1 ⟨rfl, hb1⟩
  obtain ⟨c10, f10, l10⟩ := bcells hb1 (w.heap.size) (by first | assumption | (simp; done) | (simp; omega) | omega)
  obtain ⟨c11, f11, l11⟩ := bcells hb1 (w.heap.size + 1) (by first | assumption | (simp; done) | (simp; omega) | omega)
  obtain ⟨c12, f12, l12⟩ := bcells hb1 (w.heap.size + 2) (by first | assumption | (simp; done) | (simp; omega) | omega)
  obtain ⟨c13, f13, l13⟩ := bcells hb1 (w.heap.size + 3) (by first | assumption | (simp; done) | (simp; omega) | omega)
  replace hb1 := Aside0.mk hb1
  go_wp2_with fail
  refine (G.out _ _ _ _ (by go_simp) (by go_simp) (by go_simp) (by go_simp) (by go_simp) (by go_simp) (by go_simp)).mono ?_
  rintro e w2 ⟨rfl, hb2⟩
  obtain ⟨c20, f20, l20⟩ := bcells hb2 (w.heap.size) (by first | assumption | (simp; done) | (simp; omega) | omega)
  obtain ⟨c21, f21, l21⟩ := bcells hb2 (w.heap.size + 1) (by first | assumption | (simp; done) | (simp; omega) | omega)
  obtain ⟨c22, f22, l22⟩ := bcells hb2 (w.heap.size + 2) (by first | assumption | (simp; done) | (simp; omega) | omega)
  obtain ⟨c23, f23, l23⟩ := bcells hb2 (w.heap.size + 3) (by first | assumption | (simp; done) | (simp; omega) | omega)
  replace hb2 := Aside0.mk hb2
  go_wp2_with fail
  refine (D.out _).mono ?_
  rintro e w3 ⟨rfl, hb3⟩
  obtain ⟨c30, f30, l30⟩ := bcells hb3 (w.heap.size) (by first | assumption | (simp; done) | (simp; omega) | omega)
  obtain ⟨c31, f31, l31⟩ := bcells hb3 (w.heap.size + 1) (by first | assumption | (simp; done) | (simp; omega) | omega)
  obtain ⟨c32, f32, l32⟩ := bcells hb3 (w.heap.size + 2) (by first | assumption | (simp; done) | (simp; omega) | omega)
  obtain ⟨c33, f33, l33⟩ := bcells hb3 (w.heap.size + 3) (by first | assumption | (simp; done) | (simp; omega) | omega)
  replace hb3 := Aside0.mk hb3
  go_wp2_with fail
  simp [bodyPost, results, Tryd.results55, go_sem, c13, f13, c23, f23, c33, f33]
  exact set_ok (set_ok (set_ok (below_step (below_step (below_step (below_alloc (below_alloc (below_alloc (below_alloc (Below.refl _ _) _) _) _) _) hb1.out) hb2.out) hb3.out) (by omega) _) (by omega) _) (by omega) _
set_option maxRecDepth 100000 in
set_option maxHeartbeats 4000000 in
theorem sum_57_in (k1 n0 n1 : Int) (s0 s1 : ByteArray) (x0 x1 y0 y1 r0 r1 m1 m2 : Int) (m3 : ByteArray) (m4 : Int) (w : World) (ha : value_asked.f 2 n0 s0 k1 n1 s1 = some (false, 0)) (z1 : (k1 == 2) = false) (q1 : (k1 != 2) = true)
    (hx : value_fixed.f 2 n0 s0 = some (x0, x1)) (hy : value_fixed.f k1 n1 s1 = some (y0, y1)) (hp : vw_plus.f x0 x1 y0 y1 = some (r0, r1)) (hm : vw_told.f r0 r1 3 = some (m1, m2, m3, m4)) :
    Calls Tryd.prog 55 #[.agg #[.int .u8 2, .int .i64 n0, .string s0], .agg #[.int .u8 k1, .int .i64 n1, .string s1], .func (.func 57) #[] #[]] w fun e w' => e = .returned (.tuple #[.agg #[.int .u8 m1, .int .i64 m2, .string m3], .int .i64 m4]) ∧ Below w.heap.size w w' := by
  have N := Aside0.mk (value_asked.calls 2 n0 s0 k1 n1 s1 _ _ · ha)
  have G := Aside0.mk (fun A T B W a0 a1 a2 b0 b1 b2 t0 => both_39_57 A T B 2 n0 s0 k1 n1 s1 x0 x1 y0 y1 r0 r1 W a0 a1 a2 b0 b1 b2 t0 hx hy hp)
  have D := Aside0.mk (vw_told.calls r0 r1 3 m1 m2 m3 m4 · hm)
  clear hx hy hp hm
  clear ha
  go_enter Tryd.func55, Tryd.ntmps55
  go_wp2_with fail
  refine (N.out _).mono ?_
  rintro e w1 ⟨rfl, hb1⟩
  obtain ⟨c10, f10, l10⟩ := bcells hb1 (w.heap.size) (by first | assumption | (simp; done) | (simp; omega) | omega)
  obtain ⟨c11, f11, l11⟩ := bcells hb1 (w.heap.size + 1) (by first | assumption | (simp; done) | (simp; omega) | omega)
  obtain ⟨c12, f12, l12⟩ := bcells hb1 (w.heap.size + 2) (by first | assumption | (simp; done) | (simp; omega) | omega)
  obtain ⟨c13, f13, l13⟩ := bcells hb1 (w.heap.size + 3) (by first | assumption | (simp; done) | (simp; omega) | omega)
  replace hb1 := Aside0.mk hb1
  go_wp2_with fail
  refine (G.out _ _ _ _ (by go_simp) (by go_simp) (by go_simp) (by go_simp) (by go_simp) (by go_simp) (by go_simp)).mono ?_
  rintro e w2 ⟨rfl, hb2⟩
  obtain ⟨c20, f20, l20⟩ := bcells hb2 (w.heap.size) (by first | assumption | (simp; done) | (simp; omega) | omega)
  obtain ⟨c21, f21, l21⟩ := bcells hb2 (w.heap.size + 1) (by first | assumption | (simp; done) | (simp; omega) | omega)
  obtain ⟨c22, f22, l22⟩ := bcells hb2 (w.heap.size + 2) (by first | assumption | (simp; done) | (simp; omega) | omega)
  obtain ⟨c23, f23, l23⟩ := bcells hb2 (w.heap.size + 3) (by first | assumption | (simp; done) | (simp; omega) | omega)
  replace hb2 := Aside0.mk hb2
  go_wp2_with fail
  refine (D.out _).mono ?_
  rintro e w3 ⟨rfl, hb3⟩
  obtain ⟨c30, f30, l30⟩ := bcells hb3 (w.heap.size) (by first | assumption | (simp; done) | (simp; omega) | omega)
  obtain ⟨c31, f31, l31⟩ := bcells hb3 (w.heap.size + 1) (by first | assumption | (simp; done) | (simp; omega) | omega)
  obtain ⟨c32, f32, l32⟩ := bcells hb3 (w.heap.size + 2) (by first | assumption | (simp; done) | (simp; omega) | omega)
  obtain ⟨c33, f33, l33⟩ := bcells hb3 (w.heap.size + 3) (by first | assumption | (simp; done) | (simp; omega) | omega)
  replace hb3 := Aside0.mk hb3
  go_wp2_with fail
  simp [bodyPost, results, Tryd.results55, go_sem, c13, f13, c23, f23, c33, f33]
  exact set_ok (set_ok (set_ok (below_step (below_step (below_step (below_alloc (below_alloc (below_alloc (below_alloc (Below.refl _ _) _) _) _) _) hb1.out) hb2.out) hb3.out) (by omega) _) (by omega) _) (by omega) _
set_option maxRecDepth 100000 in
set_option maxHeartbeats 4000000 in
theorem sum_57_n (k0 k1 n0 n1 : Int) (s0 s1 : ByteArray) (x0 x1 y0 y1 r0 r1 m1 m2 : Int) (m3 : ByteArray) (m4 : Int) (w : World) (ha : value_asked.f k0 n0 s0 k1 n1 s1 = some (false, 0)) (z0 : (k0 == 2) = false) (y0' : (k0 != 2) = true)
    (hx : value_fixed.f k0 n0 s0 = some (x0, x1)) (hy : value_fixed.f k1 n1 s1 = some (y0, y1)) (hp : vw_plus.f x0 x1 y0 y1 = some (r0, r1)) (hm : vw_told.f r0 r1 3 = some (m1, m2, m3, m4)) :
    Calls Tryd.prog 55 #[.agg #[.int .u8 k0, .int .i64 n0, .string s0], .agg #[.int .u8 k1, .int .i64 n1, .string s1], .func (.func 57) #[] #[]] w fun e w' => e = .returned (.tuple #[.agg #[.int .u8 m1, .int .i64 m2, .string m3], .int .i64 m4]) ∧ Below w.heap.size w w' := by
  have N := Aside0.mk (value_asked.calls k0 n0 s0 k1 n1 s1 _ _ · ha)
  have G := Aside0.mk (fun A T B W a0 a1 a2 b0 b1 b2 t0 => both_39_57 A T B k0 n0 s0 k1 n1 s1 x0 x1 y0 y1 r0 r1 W a0 a1 a2 b0 b1 b2 t0 hx hy hp)
  have D := Aside0.mk (vw_told.calls r0 r1 3 m1 m2 m3 m4 · hm)
  clear hx hy hp hm
  clear ha
  go_enter Tryd.func55, Tryd.ntmps55
  go_wp2_with fail
  refine (N.out _).mono ?_
  rintro e w1 ⟨rfl, hb1⟩
  obtain ⟨c10, f10, l10⟩ := bcells hb1 (w.heap.size) (by first | assumption | (simp; done) | (simp; omega) | omega)
  obtain ⟨c11, f11, l11⟩ := bcells hb1 (w.heap.size + 1) (by first | assumption | (simp; done) | (simp; omega) | omega)
  obtain ⟨c12, f12, l12⟩ := bcells hb1 (w.heap.size + 2) (by first | assumption | (simp; done) | (simp; omega) | omega)
  obtain ⟨c13, f13, l13⟩ := bcells hb1 (w.heap.size + 3) (by first | assumption | (simp; done) | (simp; omega) | omega)
  replace hb1 := Aside0.mk hb1
  go_wp2_with fail
  refine (G.out _ _ _ _ (by go_simp) (by go_simp) (by go_simp) (by go_simp) (by go_simp) (by go_simp) (by go_simp)).mono ?_
  rintro e w2 ⟨rfl, hb2⟩
  obtain ⟨c20, f20, l20⟩ := bcells hb2 (w.heap.size) (by first | assumption | (simp; done) | (simp; omega) | omega)
  obtain ⟨c21, f21, l21⟩ := bcells hb2 (w.heap.size + 1) (by first | assumption | (simp; done) | (simp; omega) | omega)
  obtain ⟨c22, f22, l22⟩ := bcells hb2 (w.heap.size + 2) (by first | assumption | (simp; done) | (simp; omega) | omega)
  obtain ⟨c23, f23, l23⟩ := bcells hb2 (w.heap.size + 3) (by first | assumption | (simp; done) | (simp; omega) | omega)
  replace hb2 := Aside0.mk hb2
  go_wp2_with fail
  refine (D.out _).mono ?_
  rintro e w3 ⟨rfl, hb3⟩
  obtain ⟨c30, f30, l30⟩ := bcells hb3 (w.heap.size) (by first | assumption | (simp; done) | (simp; omega) | omega)
  obtain ⟨c31, f31, l31⟩ := bcells hb3 (w.heap.size + 1) (by first | assumption | (simp; done) | (simp; omega) | omega)
  obtain ⟨c32, f32, l32⟩ := bcells hb3 (w.heap.size + 2) (by first | assumption | (simp; done) | (simp; omega) | omega)
  obtain ⟨c33, f33, l33⟩ := bcells hb3 (w.heap.size + 3) (by first | assumption | (simp; done) | (simp; omega) | omega)
  replace hb3 := Aside0.mk hb3
  go_wp2_with fail
  simp [bodyPost, results, Tryd.results55, go_sem, c13, f13, c23, f23, c33, f33]
  exact set_ok (set_ok (set_ok (below_step (below_step (below_step (below_alloc (below_alloc (below_alloc (below_alloc (Below.refl _ _) _) _) _) _) hb1.out) hb2.out) hb3.out) (by omega) _) (by omega) _) (by omega) _
set_option maxRecDepth 100000 in
set_option maxHeartbeats 4000000 in
theorem sum_41_w2 (k0 k1 n0 n1 : Int) (s0 s1 : ByteArray) (w : World) (ha : value_asked.f k0 n0 s0 k1 n1 s1 = some (false, 2)) :
    Calls Tryd.prog 55 #[.agg #[.int .u8 k0, .int .i64 n0, .string s0], .agg #[.int .u8 k1, .int .i64 n1, .string s1], .func (.func 41) #[] #[]] w fun e w' => e = .returned (.tuple #[.agg #[.int .u8 0, .int .i64 0, .string ⟨#[]⟩], .int .i64 2]) ∧ Below w.heap.size w w' := by
  have N := Aside0.mk (value_asked.calls k0 n0 s0 k1 n1 s1 _ _ · ha)
  clear ha
  go_enter Tryd.func55, Tryd.ntmps55
  go_wp2_with fail
  refine (N.out _).mono ?_
  rintro e w1 ⟨rfl, hb1⟩
  obtain ⟨c10, f10, l10⟩ := bcells hb1 (w.heap.size) (by first | assumption | (simp; done) | (simp; omega) | omega)
  obtain ⟨c11, f11, l11⟩ := bcells hb1 (w.heap.size + 1) (by first | assumption | (simp; done) | (simp; omega) | omega)
  obtain ⟨c12, f12, l12⟩ := bcells hb1 (w.heap.size + 2) (by first | assumption | (simp; done) | (simp; omega) | omega)
  obtain ⟨c13, f13, l13⟩ := bcells hb1 (w.heap.size + 3) (by first | assumption | (simp; done) | (simp; omega) | omega)
  replace hb1 := Aside0.mk hb1
  go_wp2_with fail
  simp [bodyPost, results, Tryd.results55, go_sem, c13, f13]
  exact set_ok (set_ok (set_ok (below_step (below_alloc (below_alloc (below_alloc (below_alloc (Below.refl _ _) _) _) _) _) hb1.out) (by omega) _) (by omega) _) (by omega) _
set_option maxRecDepth 100000 in
set_option maxHeartbeats 4000000 in
theorem sum_41_w270 (k0 k1 n0 n1 : Int) (s0 s1 : ByteArray) (w : World) (ha : value_asked.f k0 n0 s0 k1 n1 s1 = some (false, 270)) :
    Calls Tryd.prog 55 #[.agg #[.int .u8 k0, .int .i64 n0, .string s0], .agg #[.int .u8 k1, .int .i64 n1, .string s1], .func (.func 41) #[] #[]] w fun e w' => e = .returned (.tuple #[.agg #[.int .u8 0, .int .i64 0, .string ⟨#[]⟩], .int .i64 270]) ∧ Below w.heap.size w w' := by
  have N := Aside0.mk (value_asked.calls k0 n0 s0 k1 n1 s1 _ _ · ha)
  clear ha
  go_enter Tryd.func55, Tryd.ntmps55
  go_wp2_with fail
  refine (N.out _).mono ?_
  rintro e w1 ⟨rfl, hb1⟩
  obtain ⟨c10, f10, l10⟩ := bcells hb1 (w.heap.size) (by first | assumption | (simp; done) | (simp; omega) | omega)
  obtain ⟨c11, f11, l11⟩ := bcells hb1 (w.heap.size + 1) (by first | assumption | (simp; done) | (simp; omega) | omega)
  obtain ⟨c12, f12, l12⟩ := bcells hb1 (w.heap.size + 2) (by first | assumption | (simp; done) | (simp; omega) | omega)
  obtain ⟨c13, f13, l13⟩ := bcells hb1 (w.heap.size + 3) (by first | assumption | (simp; done) | (simp; omega) | omega)
  replace hb1 := Aside0.mk hb1
  go_wp2_with fail
  simp [bodyPost, results, Tryd.results55, go_sem, c13, f13]
  exact set_ok (set_ok (set_ok (below_step (below_alloc (below_alloc (below_alloc (below_alloc (Below.refl _ _) _) _) _) _) hb1.out) (by omega) _) (by omega) _) (by omega) _
set_option maxRecDepth 100000 in
set_option maxHeartbeats 4000000 in
theorem sum_41_null (k0 k1 n0 n1 : Int) (s0 s1 : ByteArray) (w : World) (ha : value_asked.f k0 n0 s0 k1 n1 s1 = some (true, 0)) :
    Calls Tryd.prog 55 #[.agg #[.int .u8 k0, .int .i64 n0, .string s0], .agg #[.int .u8 k1, .int .i64 n1, .string s1], .func (.func 41) #[] #[]] w fun e w' => e = .returned (.tuple #[.agg #[.int .u8 0, .int .i64 0, .string ⟨#[]⟩], .int .i64 0]) ∧ Below w.heap.size w w' := by
  have N := Aside0.mk (value_asked.calls k0 n0 s0 k1 n1 s1 _ _ · ha)
  clear ha
  go_enter Tryd.func55, Tryd.ntmps55
  go_wp2_with fail
  refine (N.out _).mono ?_
  rintro e w1 ⟨rfl, hb1⟩
  obtain ⟨c10, f10, l10⟩ := bcells hb1 (w.heap.size) (by first | assumption | (simp; done) | (simp; omega) | omega)
  obtain ⟨c11, f11, l11⟩ := bcells hb1 (w.heap.size + 1) (by first | assumption | (simp; done) | (simp; omega) | omega)
  obtain ⟨c12, f12, l12⟩ := bcells hb1 (w.heap.size + 2) (by first | assumption | (simp; done) | (simp; omega) | omega)
  obtain ⟨c13, f13, l13⟩ := bcells hb1 (w.heap.size + 3) (by first | assumption | (simp; done) | (simp; omega) | omega)
  replace hb1 := Aside0.mk hb1
  go_wp2_with fail
  simp [bodyPost, results, Tryd.results55, go_sem, c13, f13]
  exact set_ok (set_ok (set_ok (below_step (below_alloc (below_alloc (below_alloc (below_alloc (Below.refl _ _) _) _) _) _) hb1.out) (by omega) _) (by omega) _) (by omega) _
set_option maxRecDepth 100000 in
set_option maxHeartbeats 4000000 in
theorem sum_41_ii (n0 n1 : Int) (s0 s1 : ByteArray) (x0 x1 y0 y1 v0 v1 r0 r1 m1 m2 : Int) (m3 : ByteArray) (m4 : Int) (w : World) (ha : value_asked.f 2 n0 s0 2 n1 s1 = some (false, 0))
    (hx : value_of.f n0 = some (x0, x1)) (hy : value_of.f n1 = some (y0, y1)) (ht : vw_minus.f y0 y1 = some (v0, v1)) (hp : vw_plus.f x0 x1 v0 v1 = some (r0, r1)) (hm : vw_told.f r0 r1 2 = some (m1, m2, m3, m4)) :
    Calls Tryd.prog 55 #[.agg #[.int .u8 2, .int .i64 n0, .string s0], .agg #[.int .u8 2, .int .i64 n1, .string s1], .func (.func 41) #[] #[]] w fun e w' => e = .returned (.tuple #[.agg #[.int .u8 m1, .int .i64 m2, .string m3], .int .i64 m4]) ∧ Below w.heap.size w w' := by
  have N := Aside0.mk (value_asked.calls 2 n0 s0 2 n1 s1 _ _ · ha)
  have G := Aside0.mk (fun A T B W a0 a1 a2 b0 b1 b2 t0 => both_84_41 A T B 2 n0 s0 2 n1 s1 x0 x1 y0 y1 v0 v1 r0 r1 W a0 a1 a2 b0 b1 b2 t0 hx hy ht hp)
  have D := Aside0.mk (vw_told.calls r0 r1 2 m1 m2 m3 m4 · hm)
  clear hx hy ht hp hm
  clear ha
  go_enter Tryd.func55, Tryd.ntmps55
  go_wp2_with fail
  refine (N.out _).mono ?_
  rintro e w1 ⟨rfl, hb1⟩
  obtain ⟨c10, f10, l10⟩ := bcells hb1 (w.heap.size) (by first | assumption | (simp; done) | (simp; omega) | omega)
  obtain ⟨c11, f11, l11⟩ := bcells hb1 (w.heap.size + 1) (by first | assumption | (simp; done) | (simp; omega) | omega)
  obtain ⟨c12, f12, l12⟩ := bcells hb1 (w.heap.size + 2) (by first | assumption | (simp; done) | (simp; omega) | omega)
  obtain ⟨c13, f13, l13⟩ := bcells hb1 (w.heap.size + 3) (by first | assumption | (simp; done) | (simp; omega) | omega)
  replace hb1 := Aside0.mk hb1
  go_wp2_with fail
  refine (G.out _ _ _ _ (by go_simp) (by go_simp) (by go_simp) (by go_simp) (by go_simp) (by go_simp) (by go_simp)).mono ?_
  rintro e w2 ⟨rfl, hb2⟩
  obtain ⟨c20, f20, l20⟩ := bcells hb2 (w.heap.size) (by first | assumption | (simp; done) | (simp; omega) | omega)
  obtain ⟨c21, f21, l21⟩ := bcells hb2 (w.heap.size + 1) (by first | assumption | (simp; done) | (simp; omega) | omega)
  obtain ⟨c22, f22, l22⟩ := bcells hb2 (w.heap.size + 2) (by first | assumption | (simp; done) | (simp; omega) | omega)
  obtain ⟨c23, f23, l23⟩ := bcells hb2 (w.heap.size + 3) (by first | assumption | (simp; done) | (simp; omega) | omega)
  replace hb2 := Aside0.mk hb2
  go_wp2_with fail
  refine (D.out _).mono ?_
  rintro e w3 ⟨rfl, hb3⟩
  obtain ⟨c30, f30, l30⟩ := bcells hb3 (w.heap.size) (by first | assumption | (simp; done) | (simp; omega) | omega)
  obtain ⟨c31, f31, l31⟩ := bcells hb3 (w.heap.size + 1) (by first | assumption | (simp; done) | (simp; omega) | omega)
  obtain ⟨c32, f32, l32⟩ := bcells hb3 (w.heap.size + 2) (by first | assumption | (simp; done) | (simp; omega) | omega)
  obtain ⟨c33, f33, l33⟩ := bcells hb3 (w.heap.size + 3) (by first | assumption | (simp; done) | (simp; omega) | omega)
  replace hb3 := Aside0.mk hb3
  go_wp2_with fail
  simp [bodyPost, results, Tryd.results55, go_sem, c13, f13, c23, f23, c33, f33]
  exact set_ok (set_ok (set_ok (below_step (below_step (below_step (below_alloc (below_alloc (below_alloc (below_alloc (Below.refl _ _) _) _) _) _) hb1.out) hb2.out) hb3.out) (by omega) _) (by omega) _) (by omega) _
set_option maxRecDepth 100000 in
set_option maxHeartbeats 4000000 in
theorem sum_41_in (k1 n0 n1 : Int) (s0 s1 : ByteArray) (x0 x1 y0 y1 v0 v1 r0 r1 m1 m2 : Int) (m3 : ByteArray) (m4 : Int) (w : World) (ha : value_asked.f 2 n0 s0 k1 n1 s1 = some (false, 0)) (z1 : (k1 == 2) = false) (q1 : (k1 != 2) = true)
    (hx : value_fixed.f 2 n0 s0 = some (x0, x1)) (hy : value_fixed.f k1 n1 s1 = some (y0, y1)) (ht : vw_minus.f y0 y1 = some (v0, v1)) (hp : vw_plus.f x0 x1 v0 v1 = some (r0, r1)) (hm : vw_told.f r0 r1 3 = some (m1, m2, m3, m4)) :
    Calls Tryd.prog 55 #[.agg #[.int .u8 2, .int .i64 n0, .string s0], .agg #[.int .u8 k1, .int .i64 n1, .string s1], .func (.func 41) #[] #[]] w fun e w' => e = .returned (.tuple #[.agg #[.int .u8 m1, .int .i64 m2, .string m3], .int .i64 m4]) ∧ Below w.heap.size w w' := by
  have N := Aside0.mk (value_asked.calls 2 n0 s0 k1 n1 s1 _ _ · ha)
  have G := Aside0.mk (fun A T B W a0 a1 a2 b0 b1 b2 t0 => both_39_41 A T B 2 n0 s0 k1 n1 s1 x0 x1 y0 y1 v0 v1 r0 r1 W a0 a1 a2 b0 b1 b2 t0 hx hy ht hp)
  have D := Aside0.mk (vw_told.calls r0 r1 3 m1 m2 m3 m4 · hm)
  clear hx hy ht hp hm
  clear ha
  go_enter Tryd.func55, Tryd.ntmps55
  go_wp2_with fail
  refine (N.out _).mono ?_
  rintro e w1 ⟨rfl, hb1⟩
  obtain ⟨c10, f10, l10⟩ := bcells hb1 (w.heap.size) (by first | assumption | (simp; done) | (simp; omega) | omega)
  obtain ⟨c11, f11, l11⟩ := bcells hb1 (w.heap.size + 1) (by first | assumption | (simp; done) | (simp; omega) | omega)
  obtain ⟨c12, f12, l12⟩ := bcells hb1 (w.heap.size + 2) (by first | assumption | (simp; done) | (simp; omega) | omega)
  obtain ⟨c13, f13, l13⟩ := bcells hb1 (w.heap.size + 3) (by first | assumption | (simp; done) | (simp; omega) | omega)
  replace hb1 := Aside0.mk hb1
  go_wp2_with fail
  refine (G.out _ _ _ _ (by go_simp) (by go_simp) (by go_simp) (by go_simp) (by go_simp) (by go_simp) (by go_simp)).mono ?_
  rintro e w2 ⟨rfl, hb2⟩
  obtain ⟨c20, f20, l20⟩ := bcells hb2 (w.heap.size) (by first | assumption | (simp; done) | (simp; omega) | omega)
  obtain ⟨c21, f21, l21⟩ := bcells hb2 (w.heap.size + 1) (by first | assumption | (simp; done) | (simp; omega) | omega)
  obtain ⟨c22, f22, l22⟩ := bcells hb2 (w.heap.size + 2) (by first | assumption | (simp; done) | (simp; omega) | omega)
  obtain ⟨c23, f23, l23⟩ := bcells hb2 (w.heap.size + 3) (by first | assumption | (simp; done) | (simp; omega) | omega)
  replace hb2 := Aside0.mk hb2
  go_wp2_with fail
  refine (D.out _).mono ?_
  rintro e w3 ⟨rfl, hb3⟩
  obtain ⟨c30, f30, l30⟩ := bcells hb3 (w.heap.size) (by first | assumption | (simp; done) | (simp; omega) | omega)
  obtain ⟨c31, f31, l31⟩ := bcells hb3 (w.heap.size + 1) (by first | assumption | (simp; done) | (simp; omega) | omega)
  obtain ⟨c32, f32, l32⟩ := bcells hb3 (w.heap.size + 2) (by first | assumption | (simp; done) | (simp; omega) | omega)
  obtain ⟨c33, f33, l33⟩ := bcells hb3 (w.heap.size + 3) (by first | assumption | (simp; done) | (simp; omega) | omega)
  replace hb3 := Aside0.mk hb3
  go_wp2_with fail
  simp [bodyPost, results, Tryd.results55, go_sem, c13, f13, c23, f23, c33, f33]
  exact set_ok (set_ok (set_ok (below_step (below_step (below_step (below_alloc (below_alloc (below_alloc (below_alloc (Below.refl _ _) _) _) _) _) hb1.out) hb2.out) hb3.out) (by omega) _) (by omega) _) (by omega) _
set_option maxRecDepth 100000 in
set_option maxHeartbeats 4000000 in
theorem sum_41_n (k0 k1 n0 n1 : Int) (s0 s1 : ByteArray) (x0 x1 y0 y1 v0 v1 r0 r1 m1 m2 : Int) (m3 : ByteArray) (m4 : Int) (w : World) (ha : value_asked.f k0 n0 s0 k1 n1 s1 = some (false, 0)) (z0 : (k0 == 2) = false) (y0' : (k0 != 2) = true)
    (hx : value_fixed.f k0 n0 s0 = some (x0, x1)) (hy : value_fixed.f k1 n1 s1 = some (y0, y1)) (ht : vw_minus.f y0 y1 = some (v0, v1)) (hp : vw_plus.f x0 x1 v0 v1 = some (r0, r1)) (hm : vw_told.f r0 r1 3 = some (m1, m2, m3, m4)) :
    Calls Tryd.prog 55 #[.agg #[.int .u8 k0, .int .i64 n0, .string s0], .agg #[.int .u8 k1, .int .i64 n1, .string s1], .func (.func 41) #[] #[]] w fun e w' => e = .returned (.tuple #[.agg #[.int .u8 m1, .int .i64 m2, .string m3], .int .i64 m4]) ∧ Below w.heap.size w w' := by
  have N := Aside0.mk (value_asked.calls k0 n0 s0 k1 n1 s1 _ _ · ha)
  have G := Aside0.mk (fun A T B W a0 a1 a2 b0 b1 b2 t0 => both_39_41 A T B k0 n0 s0 k1 n1 s1 x0 x1 y0 y1 v0 v1 r0 r1 W a0 a1 a2 b0 b1 b2 t0 hx hy ht hp)
  have D := Aside0.mk (vw_told.calls r0 r1 3 m1 m2 m3 m4 · hm)
  clear hx hy ht hp hm
  clear ha
  go_enter Tryd.func55, Tryd.ntmps55
  go_wp2_with fail
  refine (N.out _).mono ?_
  rintro e w1 ⟨rfl, hb1⟩
  obtain ⟨c10, f10, l10⟩ := bcells hb1 (w.heap.size) (by first | assumption | (simp; done) | (simp; omega) | omega)
  obtain ⟨c11, f11, l11⟩ := bcells hb1 (w.heap.size + 1) (by first | assumption | (simp; done) | (simp; omega) | omega)
  obtain ⟨c12, f12, l12⟩ := bcells hb1 (w.heap.size + 2) (by first | assumption | (simp; done) | (simp; omega) | omega)
  obtain ⟨c13, f13, l13⟩ := bcells hb1 (w.heap.size + 3) (by first | assumption | (simp; done) | (simp; omega) | omega)
  replace hb1 := Aside0.mk hb1
  go_wp2_with fail
  refine (G.out _ _ _ _ (by go_simp) (by go_simp) (by go_simp) (by go_simp) (by go_simp) (by go_simp) (by go_simp)).mono ?_
  rintro e w2 ⟨rfl, hb2⟩
  obtain ⟨c20, f20, l20⟩ := bcells hb2 (w.heap.size) (by first | assumption | (simp; done) | (simp; omega) | omega)
  obtain ⟨c21, f21, l21⟩ := bcells hb2 (w.heap.size + 1) (by first | assumption | (simp; done) | (simp; omega) | omega)
  obtain ⟨c22, f22, l22⟩ := bcells hb2 (w.heap.size + 2) (by first | assumption | (simp; done) | (simp; omega) | omega)
  obtain ⟨c23, f23, l23⟩ := bcells hb2 (w.heap.size + 3) (by first | assumption | (simp; done) | (simp; omega) | omega)
  replace hb2 := Aside0.mk hb2
  go_wp2_with fail
  refine (D.out _).mono ?_
  rintro e w3 ⟨rfl, hb3⟩
  obtain ⟨c30, f30, l30⟩ := bcells hb3 (w.heap.size) (by first | assumption | (simp; done) | (simp; omega) | omega)
  obtain ⟨c31, f31, l31⟩ := bcells hb3 (w.heap.size + 1) (by first | assumption | (simp; done) | (simp; omega) | omega)
  obtain ⟨c32, f32, l32⟩ := bcells hb3 (w.heap.size + 2) (by first | assumption | (simp; done) | (simp; omega) | omega)
  obtain ⟨c33, f33, l33⟩ := bcells hb3 (w.heap.size + 3) (by first | assumption | (simp; done) | (simp; omega) | omega)
  replace hb3 := Aside0.mk hb3
  go_wp2_with fail
  simp [bodyPost, results, Tryd.results55, go_sem, c13, f13, c23, f23, c33, f33]
  exact set_ok (set_ok (set_ok (below_step (below_step (below_step (below_alloc (below_alloc (below_alloc (below_alloc (Below.refl _ _) _) _) _) _) hb1.out) hb2.out) hb3.out) (by omega) _) (by omega) _) (by omega) _
end Go.Proofs.YtbodlnoipkommaaDoor.Wn
namespace Go.Proofs.YtbodlnoipkommaaDoor.Wo
open Go.RowKit Go.Proofs.YtbodlnoipkommaaDoor.Q Go.Proofs.YtbodlnoipkommaaDoor.We Go.Proofs.YtbodlnoipkommaaDoor.Wh Go.Proofs.YtbodlnoipkommaaDoor.Wi Go.Proofs.YtbodlnoipkommaaDoor.Wj Go.Proofs.YtbodlnoipkommaaDoor.Wm Go.Proofs.YtbodlnoipkommaaDoor.Wn Go.Proofs.YtbodlnoipkommaaDoorW.PrintWords Go.Proofs.YtbodlnoipkommaaDoorW.PrintLast Go.Proofs.YtbodlnoipkommaaDoorW.PrintMore
abbrev V4 : Type := Int × Int × ByteArray × Int
def joinF (turn : Int → Int → Option (Int × Int)) (x y : Option (Int × Int)) (k : Int) : Option V4 :=
  x.bind fun x => y.bind fun y => (turn y.1 y.2).bind fun v => (vw_plus.f x.1 x.2 v.1 v.2).bind fun r => vw_told.f r.1 r.2 k
def sumF (turn : Int → Int → Option (Int × Int)) (k0 n0 : Int) (s0 : ByteArray) (k1 n1 : Int) (s1 : ByteArray) : Option V4 :=
  if (askedR k0 n0 s0 k1 n1 s1).2 ≠ 0 ∨ (askedR k0 n0 s0 k1 n1 s1).1 = true then some (0, 0, ⟨#[]⟩, (askedR k0 n0 s0 k1 n1 s1).2) else
  if k0 = 2 ∧ k1 = 2 then joinF turn (value_of.f n0) (value_of.f n1) 2 else joinF turn (value_fixed.f k0 n0 s0) (value_fixed.f k1 n1 s1) 3
theorem asked_four (k0 n0 : Int) (s0 : ByteArray) (k1 n1 : Int) (s1 : ByteArray) : askedR k0 n0 s0 k1 n1 s1 = (false, 2) ∨ askedR k0 n0 s0 k1 n1 s1 = (false, 270) ∨ askedR k0 n0 s0 k1 n1 s1 = (true, 0) ∨ askedR k0 n0 s0 k1 n1 s1 = (false, 0) := by
  unfold askedR
  split
  · exact Or.inl rfl
  split
  · exact Or.inr (Or.inl rfl)
  cases (k0 == 0 || k1 == 0)
  · exact Or.inr (Or.inr (Or.inr rfl))
  · exact Or.inr (Or.inr (Or.inl rfl))
theorem joinF_some {turn : Int → Int → Option (Int × Int)} {x y : Option (Int × Int)} {k : Int} {m1 m2 : Int} {m3 : ByteArray} {m4 : Int} (h : joinF turn x y k = some (m1, m2, m3, m4)) :
    ∃ x0 x1 y0 y1 v0 v1 r0 r1, x = some (x0, x1) ∧ y = some (y0, y1) ∧ turn y0 y1 = some (v0, v1) ∧ vw_plus.f x0 x1 v0 v1 = some (r0, r1) ∧ vw_told.f r0 r1 k = some (m1, m2, m3, m4) := by
  unfold joinF at h
  obtain ⟨⟨x0, x1⟩, hx, h⟩ := Option.bind_eq_some_iff.mp h
  obtain ⟨⟨y0, y1⟩, hy, h⟩ := Option.bind_eq_some_iff.mp h
  obtain ⟨⟨v0, v1⟩, hv, h⟩ := Option.bind_eq_some_iff.mp h
  obtain ⟨⟨r0, r1⟩, hr, h⟩ := Option.bind_eq_some_iff.mp h
  exact ⟨x0, x1, y0, y1, v0, v1, r0, r1, hx, hy, hv, hr, h⟩
def idF (a b : Int) : Option (Int × Int) := some (a, b)
theorem sum_57 (k0 n0 : Int) (s0 : ByteArray) (k1 n1 : Int) (s1 : ByteArray) (m1 m2 : Int) (m3 : ByteArray) (m4 : Int) (w : World) (h : sumF idF k0 n0 s0 k1 n1 s1 = some (m1, m2, m3, m4)) :
    Calls Tryd.prog 55 #[.agg #[.int .u8 k0, .int .i64 n0, .string s0], .agg #[.int .u8 k1, .int .i64 n1, .string s1], .func (.func 57) #[] #[]] w fun e w' => e = .returned (.tuple #[.agg #[.int .u8 m1, .int .i64 m2, .string m3], .int .i64 m4]) ∧ Below w.heap.size w w' := by
  unfold sumF at h
  have ha : value_asked.f k0 n0 s0 k1 n1 s1 = some (askedR k0 n0 s0 k1 n1 s1) := rfl
  rcases asked_four k0 n0 s0 k1 n1 s1 with q | q | q | q <;> rw [q] at h ha
  · rw [if_pos (Or.inl (by decide))] at h
    injection h with h; injection h with e1 h; injection h with e2 h; injection h with e3 e4
    subst e1 e2 e3 e4
    exact sum_57_w2 k0 k1 n0 n1 s0 s1 w ha
  · rw [if_pos (Or.inl (by decide))] at h
    injection h with h; injection h with e1 h; injection h with e2 h; injection h with e3 e4
    subst e1 e2 e3 e4
    exact sum_57_w270 k0 k1 n0 n1 s0 s1 w ha
  · rw [if_pos (Or.inr rfl)] at h
    injection h with h; injection h with e1 h; injection h with e2 h; injection h with e3 e4
    subst e1 e2 e3 e4
    exact sum_57_null k0 k1 n0 n1 s0 s1 w ha
  · rw [if_neg (by decide)] at h
    by_cases z0 : k0 = 2
    · subst z0
      by_cases z1 : k1 = 2
      · subst z1
        rw [if_pos ⟨rfl, rfl⟩] at h
        obtain ⟨x0, x1, y0, y1, v0, v1, r0, r1, hx, hy, ht, hp, hm⟩ := joinF_some h
        injection ht with ht
        injection ht with e1 e2
        subst e1 e2
        exact sum_57_ii n0 n1 s0 s1 x0 x1 y0 y1 r0 r1 m1 m2 m3 m4 w ha hx hy hp hm
      · rw [if_neg (fun c => z1 c.2)] at h
        obtain ⟨x0, x1, y0, y1, v0, v1, r0, r1, hx, hy, ht, hp, hm⟩ := joinF_some h
        injection ht with ht
        injection ht with e1 e2
        subst e1 e2
        exact sum_57_in k1 n0 n1 s0 s1 x0 x1 y0 y1 r0 r1 m1 m2 m3 m4 w ha (beq_false_of_ne z1) (by simpa [bne] using z1) hx hy hp hm
    · rw [if_neg (fun c => z0 c.1)] at h
      obtain ⟨x0, x1, y0, y1, v0, v1, r0, r1, hx, hy, ht, hp, hm⟩ := joinF_some h
      injection ht with ht
      injection ht with e1 e2
      subst e1 e2
      exact sum_57_n k0 k1 n0 n1 s0 s1 x0 x1 y0 y1 r0 r1 m1 m2 m3 m4 w ha (beq_false_of_ne z0) (by simpa [bne] using z0) hx hy hp hm
def value_Add.f (k0 n0 : Int) (s0 : ByteArray) (k1 n1 : Int) (s1 : ByteArray) : Option V4 := sumF idF k0 n0 s0 k1 n1 s1
set_option maxHeartbeats 1000000 in
theorem value_Add.calls (k0 n0 : Int) (s0 : ByteArray) (k1 n1 : Int) (s1 : ByteArray) (m1 m2 : Int) (m3 : ByteArray) (m4 : Int) (w : World) (h : value_Add.f k0 n0 s0 k1 n1 s1 = some (m1, m2, m3, m4)) :
    Calls Tryd.prog 19 #[.agg #[.int .u8 k0, .int .i64 n0, .string s0], .agg #[.int .u8 k1, .int .i64 n1, .string s1]] w fun e w' => e = .returned (.tuple #[.agg #[.int .u8 m1, .int .i64 m2, .string m3], .int .i64 m4]) ∧ Below w.heap.size w w' := by
  have N := Aside0.mk (sum_57 k0 n0 s0 k1 n1 s1 m1 m2 m3 m4 · h)
  clear h
  go_enter Tryd.func19, Tryd.ntmps19
  go_wp2_with fail
  refine (N.out _).mono ?_
  rintro e w1 ⟨rfl, hb1⟩
  obtain ⟨c13, f13, l13⟩ := bcells hb1 (w.heap.size + 2) (by simp)
  replace hb1 := Aside0.mk hb1
  go_wp2_with fail
  simp [bodyPost, results, Tryd.results19, go_sem, c13, f13]
  exact set_ok (set_ok (set_ok (below_step (below_alloc (below_alloc (below_alloc (Below.refl _ _) _) _) _) hb1.out) (by omega) _) (by omega) _) (by omega) _
theorem sum_41 (k0 n0 : Int) (s0 : ByteArray) (k1 n1 : Int) (s1 : ByteArray) (m1 m2 : Int) (m3 : ByteArray) (m4 : Int) (w : World) (h : sumF vw_minus.f k0 n0 s0 k1 n1 s1 = some (m1, m2, m3, m4)) :
    Calls Tryd.prog 55 #[.agg #[.int .u8 k0, .int .i64 n0, .string s0], .agg #[.int .u8 k1, .int .i64 n1, .string s1], .func (.func 41) #[] #[]] w fun e w' => e = .returned (.tuple #[.agg #[.int .u8 m1, .int .i64 m2, .string m3], .int .i64 m4]) ∧ Below w.heap.size w w' := by
  unfold sumF at h
  have ha : value_asked.f k0 n0 s0 k1 n1 s1 = some (askedR k0 n0 s0 k1 n1 s1) := rfl
  rcases asked_four k0 n0 s0 k1 n1 s1 with q | q | q | q <;> rw [q] at h ha
  · rw [if_pos (Or.inl (by decide))] at h
    injection h with h; injection h with e1 h; injection h with e2 h; injection h with e3 e4
    subst e1 e2 e3 e4
    exact sum_41_w2 k0 k1 n0 n1 s0 s1 w ha
  · rw [if_pos (Or.inl (by decide))] at h
    injection h with h; injection h with e1 h; injection h with e2 h; injection h with e3 e4
    subst e1 e2 e3 e4
    exact sum_41_w270 k0 k1 n0 n1 s0 s1 w ha
  · rw [if_pos (Or.inr rfl)] at h
    injection h with h; injection h with e1 h; injection h with e2 h; injection h with e3 e4
    subst e1 e2 e3 e4
    exact sum_41_null k0 k1 n0 n1 s0 s1 w ha
  · rw [if_neg (by decide)] at h
    by_cases z0 : k0 = 2
    · subst z0
      by_cases z1 : k1 = 2
      · subst z1
        rw [if_pos ⟨rfl, rfl⟩] at h
        obtain ⟨x0, x1, y0, y1, v0, v1, r0, r1, hx, hy, ht, hp, hm⟩ := joinF_some h
        exact sum_41_ii n0 n1 s0 s1 x0 x1 y0 y1 v0 v1 r0 r1 m1 m2 m3 m4 w ha hx hy ht hp hm
      · rw [if_neg (fun c => z1 c.2)] at h
        obtain ⟨x0, x1, y0, y1, v0, v1, r0, r1, hx, hy, ht, hp, hm⟩ := joinF_some h
        exact sum_41_in k1 n0 n1 s0 s1 x0 x1 y0 y1 v0 v1 r0 r1 m1 m2 m3 m4 w ha (beq_false_of_ne z1) (by simpa [bne] using z1) hx hy ht hp hm
    · rw [if_neg (fun c => z0 c.1)] at h
      obtain ⟨x0, x1, y0, y1, v0, v1, r0, r1, hx, hy, ht, hp, hm⟩ := joinF_some h
      exact sum_41_n k0 k1 n0 n1 s0 s1 x0 x1 y0 y1 v0 v1 r0 r1 m1 m2 m3 m4 w ha (beq_false_of_ne z0) (by simpa [bne] using z0) hx hy ht hp hm
def value_Sub.f (k0 n0 : Int) (s0 : ByteArray) (k1 n1 : Int) (s1 : ByteArray) : Option V4 := sumF vw_minus.f k0 n0 s0 k1 n1 s1
set_option maxHeartbeats 1000000 in
theorem value_Sub.calls (k0 n0 : Int) (s0 : ByteArray) (k1 n1 : Int) (s1 : ByteArray) (m1 m2 : Int) (m3 : ByteArray) (m4 : Int) (w : World) (h : value_Sub.f k0 n0 s0 k1 n1 s1 = some (m1, m2, m3, m4)) :
    Calls Tryd.prog 17 #[.agg #[.int .u8 k0, .int .i64 n0, .string s0], .agg #[.int .u8 k1, .int .i64 n1, .string s1]] w fun e w' => e = .returned (.tuple #[.agg #[.int .u8 m1, .int .i64 m2, .string m3], .int .i64 m4]) ∧ Below w.heap.size w w' := by
  have N := Aside0.mk (sum_41 k0 n0 s0 k1 n1 s1 m1 m2 m3 m4 · h)
  clear h
  go_enter Tryd.func17, Tryd.ntmps17
  go_wp2_with fail
  refine (N.out _).mono ?_
  rintro e w1 ⟨rfl, hb1⟩
  obtain ⟨c13, f13, l13⟩ := bcells hb1 (w.heap.size + 2) (by simp)
  replace hb1 := Aside0.mk hb1
  go_wp2_with fail
  simp [bodyPost, results, Tryd.results17, go_sem, c13, f13]
  exact set_ok (set_ok (set_ok (below_step (below_alloc (below_alloc (below_alloc (Below.refl _ _) _) _) _) hb1.out) (by omega) _) (by omega) _) (by omega) _
end Go.Proofs.YtbodlnoipkommaaDoor.Wo
namespace Go.Proofs.YtbodlnoipkommaaDoor.Wp
open Go.RowKit Go.Proofs.YtbodlnoipkommaaDoor.Q Go.Proofs.YtbodlnoipkommaaDoor.We Go.Proofs.YtbodlnoipkommaaDoor.Wd Go.Proofs.YtbodlnoipkommaaDoorW.PrintWords Go.Proofs.YtbodlnoipkommaaDoorW.PrintLast Go.Proofs.YtbodlnoipkommaaDoorW.PrintMore
def I64 (n : Int) : Prop := -9223372036854775808 ≤ n ∧ n < 9223372036854775808
instance (n : Int) : Decidable (I64 n) := by unfold I64; infer_instance
def I128 (n : Int) : Prop := -170141183460469231731687303715884105728 ≤ n ∧ n < 170141183460469231731687303715884105728
def hi (n : Int) : Int := n / 18446744073709551616
def lo (n : Int) : Int := n % 18446744073709551616
theorem lo_word (n : Int) : Word (lo n) := ⟨by unfold lo; omega, by unfold lo; omega⟩
theorem of_f (n : Int) (h : I64 n) : value_of.f n = some (hi n, lo n) := by
  obtain ⟨h1, h2⟩ := h
  unfold value_of.f hi lo
  rw [IntKind.wrap_u64]
  have e : n / 9223372036854775808 = n / 18446744073709551616 := by omega
  rw [e]
theorem plus_f (x y : Int) (hx : I128 x) (hy : I128 y) (hs : I128 (x + y)) : vw_plus.f (hi x) (lo x) (hi y) (lo y) = some (hi (x + y), lo (x + y)) := by
  unfold vw_plus.f
  rw [if_pos ⟨lo_word x, lo_word y⟩]
  obtain ⟨x1, x2⟩ := hx
  obtain ⟨y1, y2⟩ := hy
  obtain ⟨s1, s2⟩ := hs
  have a : hi x + hi y + (lo x + lo y) / 18446744073709551616 = hi (x + y) := by unfold hi lo; omega
  have b : (lo x + lo y) % 18446744073709551616 = lo (x + y) := by unfold lo; omega
  have c : wrap64 (wrap64 (hi x + hi y) + (lo x + lo y) / 18446744073709551616) = hi (x + y) := by
    rw [← a]
    have h3 : -9223372036854775808 ≤ hi (x + y) := by unfold hi; omega
    have h4 : hi (x + y) < 9223372036854775808 := by unfold hi; omega
    rw [← a] at h3 h4
    generalize hi x + hi y = p at *
    generalize (lo x + lo y) / 18446744073709551616 = q at *
    unfold wrap64; omega
  rw [b, c]
theorem minus_f (x : Int) (hx : I128 x) (hs : I128 (-x)) : vw_minus.f (hi x) (lo x) = some (hi (-x), lo (-x)) := by
  unfold vw_minus.f
  rw [if_pos (lo_word x)]
  obtain ⟨x1, x2⟩ := hx
  obtain ⟨s1, s2⟩ := hs
  have a : -hi x - bor 0 (lo x) = hi (-x) := by unfold bor hi lo; split <;> omega
  have b : (0 - lo x) % 18446744073709551616 = lo (-x) := by unfold lo; omega
  have c : wrap64 (wrap64 (-hi x) - bor 0 (lo x)) = hi (-x) := by
    rw [← a]
    have h3 : -9223372036854775808 ≤ hi (-x) := by unfold hi; omega
    have h4 : hi (-x) < 9223372036854775808 := by unfold hi; omega
    rw [← a] at h3 h4
    generalize hi x = p at *
    generalize bor 0 (lo x) = q at *
    unfold wrap64; omega
  rw [b, c]
theorem hi_neg (x : Int) : hi x < 0 ↔ x < 0 := by unfold hi; omega
theorem size_f (x : Int) (hx : I128 x) (hx' : I128 (-x)) : vw_size.f (hi x) (lo x) = some (hi (if x < 0 then -x else x), lo (if x < 0 then -x else x), decide (x < 0)) := by
  unfold vw_size.f
  have hd : decide (hi x < 0) = decide (x < 0) := by rw [decide_eq_decide]; exact hi_neg x
  obtain ⟨x1, x2⟩ := hx
  obtain ⟨s1, s2⟩ := hx'
  by_cases h : x < 0
  · rw [if_pos ((hi_neg x).2 h), minus_f x ⟨x1, x2⟩ ⟨s1, s2⟩, if_pos h, hd]
    have e : IntKind.u64.wrap (hi (-x)) = hi (-x) := by rw [IntKind.wrap_u64]; unfold hi; omega
    simp only [Option.bind_some, e]
  · rw [if_neg (fun c => h ((hi_neg x).1 c)), if_neg h, hd]
    have e : IntKind.u64.wrap (hi x) = hi x := by rw [IntKind.wrap_u64]; unfold hi; omega
    rw [e]
theorem told_f (x k : Int) (hx : I128 x) : vw_told.f (hi x) (lo x) k = if I64 x then some (k, x, ⟨#[]⟩, 0) else some (0, 0, ⟨#[]⟩, 271) := by
  unfold vw_told.f
  obtain ⟨x1, x2⟩ := hx
  have a : wrap64 (lo x) = (x + 9223372036854775808) % 18446744073709551616 - 9223372036854775808 := by unfold wrap64 lo; omega
  by_cases h : I64 x
  · have e : wrap64 (lo x) = x := by rw [a]; obtain ⟨h1, h2⟩ := h; omega
    rw [if_pos h, e, if_pos]
    obtain ⟨h1, h2⟩ := h
    unfold hi; omega
  · rw [if_neg h, if_neg]
    intro c
    apply h
    unfold I64
    rw [a] at c
    unfold hi at c
    omega
theorem abs_le (x : Int) (hx : I64 x) : 0 ≤ (if x < 0 then -x else x) ∧ (if x < 0 then -x else x) ≤ 9223372036854775808 := by
  obtain ⟨h1, h2⟩ := hx
  split <;> omega
theorem prod_le (a b : Int) (ha : 0 ≤ a ∧ a ≤ 9223372036854775808) (hb : 0 ≤ b ∧ b ≤ 9223372036854775808) : 0 ≤ a * b ∧ a * b ≤ 85070591730234615865843651857942052864 := by
  refine ⟨Int.mul_nonneg ha.1 hb.1, ?_⟩
  exact Int.le_trans (Int.mul_le_mul ha.2 hb.2 hb.1 (by decide)) (by decide)
theorem abs_mul' (a b : Int) : (if a < 0 then -a else a) * (if b < 0 then -b else b) = if (decide (a < 0) != decide (b < 0)) = true then -(a * b) else a * b := by
  by_cases ha : a < 0 <;> by_cases hb : b < 0 <;> simp [ha, hb, Int.neg_mul, Int.mul_neg]
theorem I128_of_I64 {x : Int} (h : I64 x) : I128 x ∧ I128 (-x) := by
  obtain ⟨h1, h2⟩ := h
  constructor <;> (unfold I128; omega)
theorem lo_small {x : Int} (h0 : 0 ≤ x) (h1 : x ≤ 9223372036854775808) : lo x = x := by unfold lo; omega
theorem times_f (a b : Int) (ha : I64 a) (hb : I64 b) : value_times.f a b = some (hi (a * b), lo (a * b)) := by
  unfold value_times.f
  have sa := size_f a (I128_of_I64 ha).1 (I128_of_I64 ha).2
  have sb := size_f b (I128_of_I64 hb).1 (I128_of_I64 hb).2
  rw [of_f a ha, of_f b hb]
  simp only [Option.bind_some]
  rw [sa]
  simp only [Option.bind_some]
  rw [sb]
  simp only [Option.bind_some]
  have ka := abs_le a ha
  have kb := abs_le b hb
  have kp := prod_le _ _ ka kb
  have kab := abs_mul' a b
  rw [lo_small ka.1 ka.2, lo_small kb.1 kb.2]
  generalize hA : (if a < 0 then -a else a) = A at *
  generalize hB : (if b < 0 then -b else b) = B at *
  unfold bits_Mul64.f
  rw [if_pos ⟨⟨ka.1, by omega⟩, ⟨kb.1, by omega⟩⟩]
  simp only [Option.bind_some]
  have hw : wrap64 (A * B / 18446744073709551616) = hi (A * B) := by
    unfold hi
    generalize A * B = p at *
    unfold wrap64; omega
  rw [hw]
  show (if (decide (a < 0) != decide (b < 0)) = true then (vw_minus.f (hi (A * B)) (lo (A * B))).bind _ else some (hi (A * B), lo (A * B))) = _
  by_cases hc : (decide (a < 0) != decide (b < 0)) = true
  · rw [if_pos hc] at kab ⊢
    have e : a * b = -(A * B) := by omega
    rw [minus_f (A * B) ⟨by omega, by omega⟩ ⟨by omega, by omega⟩, e]
    rfl
  · rw [if_neg hc] at kab ⊢
    rw [kab]
theorem fixed_f (k n : Int) (s : ByteArray) (hn : I64 n) : value_fixed.f k n s = some (hi (if k = 2 then n * 10000 else n), lo (if k = 2 then n * 10000 else n)) := by
  unfold value_fixed.f
  by_cases h : k = 2
  · rw [if_pos h, if_pos h, times_f n 10000 hn (by decide)]; rfl
  · rw [if_neg h, if_neg h, of_f n hn]; rfl
end Go.Proofs.YtbodlnoipkommaaDoor.Wp
namespace Go.Proofs.YtbodlnoipkommaaDoor.Wk
open Go.RowKit Go.Lib Go.Sort Go.Proofs.YtbodlnoipkommaaDoor.Wf Go.Proofs.YtbodlnoipkommaaDoor.We Go.Proofs.YtbodlnoipkommaaDoorW.PrintWords Go.Proofs.YtbodlnoipkommaaDoorW.PrintLast Go.Proofs.YtbodlnoipkommaaDoorW.PrintMore
abbrev T24 : TypeId := 100
abbrev TB : TypeId := 68
set_option maxRecDepth 100000 in
set_option maxHeartbeats 1000000 in
theorem fu_small (i : Nat) (hi : i < 100) (w : World) :
    Calls Tryd.prog 93 #[.int .u64 i, .int .i64 10] w fun e w' => e = .returned (.string ⟨(Lib.decDigits i).toArray⟩) ∧ w' = w := by
  go_enter Tryd.func93, Tryd.ntmps93
  go_wp2_with (go_at_call 89; refine (Tryd.internal_strconv_small i hi _).mono ?_; rintro e w' ⟨rfl, rfl⟩)
  go_ret
  exact ⟨rfl, rfl⟩
set_option maxRecDepth 100000 in
set_option maxHeartbeats 2000000 in
theorem fu_great (u : Nat) (hu0 : 100 ≤ u) (hu64 : u < 18446744073709551616) (w : World) (htab : Lib.TabIs Tryd.prog w "internal/strconv.uint64pow10" .u64 Lib.pow10Tab) :
    Calls Tryd.prog 93 #[.int .u64 u, .int .i64 10] w fun e w' => e = .returned (.string ⟨(Lib.decDigits u).toArray⟩) ∧ ∃ k os, w' = grow (w.drewN k) os := by
  have hu1 : 1 ≤ u := by omega
  have hnd20 : Lib.nDigits u ≤ 20 := by have := Lib.numDigits_eq u hu1 hu64; split at this <;> omega
  have hb3 : Lib.nDigits u ≤ 23 := by omega
  have hb4 : ¬ u < 100 := by omega
  have hal : Tryd.prog.arrayLen T24 = 24 := by kernel_rfl
  have hel : ∀ W, (sizeOf (Tryd.prog.elem T24)).run Tryd.prog W = .ok 1 W := fun W => by kernel_rfl
  have hsl1 : ∀ W, (Instr.sliceAt T24 (.pointer (some ⟨w.heap.size, 0, none⟩)) none (some (.int .i64 (Lib.nDigits u : Int))) none).run Tryd.prog W = .ok (.slice (some ⟨w.heap.size, 0, none⟩) (Lib.nDigits u) 24) W := fun W => by
    rw [run_sliceAt_array_h W T24 ⟨w.heap.size, 0, none⟩ (by rfl) .i64 (Lib.nDigits u : Int) (by omega) (by rw [hal]; omega)]
    rw [hel]
    simp [slicedAt, hal, Result.andThen]
    rfl
  have hH0 := Lib.holds_zero0 w T24 (Lib.nDigits u) (by omega)
  have hfmt := Tryd.internal_strconv_formatBase10 w.heap.size 0 24 u (Array.replicate (Lib.nDigits u) 0) (w.alloc (.cells Lib.zeros24 T24)) hH0 (by rw [Array.size_replicate]; exact Lib.lt_pow_nDigits u) hu64 (by rw [Array.size_replicate]; omega)
  rw [Array.size_replicate] at hfmt
  have HH0 := Lib.hid hH0
  clear hH0 hal hel
  go_enter Tryd.func93, Tryd.ntmps93
  go_wp2_with (first
    | (go_at_call 90; refine (Tryd.internal_strconv_numDigits u hu1 hu64 _ (Lib.tabIs_alloc htab _)).mono ?_; rintro e w' ⟨rfl, rfl⟩))
  go_at_call 91
  refine hfmt.mono ?_
  rintro e w' ⟨rfl, k, v', dk, rfl, hF⟩
  have hcv : (convert TB 9 (.slice (some ⟨w.heap.size, 0, none⟩) (Lib.nDigits u) 24)).run Tryd.prog ((putRow (fun (b : UInt8) => Value.int .u8 (b.toNat : Int)) (w.alloc (.cells Lib.zeros24 T24)) w.heap.size 0 dk).drewN k) = .ok (.string ⟨(Lib.decDigits u).toArray⟩) ((putRow (fun (b : UInt8) => Value.int .u8 (b.toNat : Int)) (w.alloc (.cells Lib.zeros24 T24)) w.heap.size 0 dk).drewN k) := by
    have h := run_convert_bytes_back (P := Tryd.prog) ((putRow (fun (b : UInt8) => Value.int .u8 (b.toNat : Int)) (w.alloc (.cells Lib.zeros24 T24)) w.heap.size 0 dk).drewN k) TB 9 (5) ⟨w.heap.size, 0, none⟩ 24 (Lib.decDigits u) Tryd.underlying68 Tryd.underlying5 Tryd.underlying9 (fun j hj => by
      rw [Lib.row_is_numeral hF j hj, Lib.add_plain, World.cell?_drewN]
      exact cell?_putRow (fun (b : UInt8) => Value.int .u8 (b.toNat : Int)) _ w.heap.size 0 _ dk HH0.out (by rw [hF.size, Array.size_replicate]) j (by rw [hF.size]; rw [Lib.decDigits_length] at hj; exact hj))
    rw [Lib.decDigits_length] at h
    exact h
  go_wp2
  go_ret
  obtain ⟨os, eo⟩ := Lib.fin_at w (.cells Lib.zeros24 T24) dk k 0
  exact ⟨rfl, k, os, eo⟩
theorem below_grow (w : World) (k : Nat) (os : Array Obj) : Below w.heap.size w (grow (w.drewN k) os) :=
  ⟨rfl, rfl, rfl, by show w.heap.size ≤ (w.heap ++ os).size; rw [Array.size_append]; omega, fun g h => Lib.heap_grow_old w k os g h⟩
def dec (u : Nat) : ByteArray := ⟨(Lib.decDigits u).toArray⟩
theorem iformat (u : Nat) (hu : u < 18446744073709551616) (w : World) (hg : VOK w) :
    Calls Tryd.prog 93 #[.int .u64 u, .int .i64 10] w fun e w' => e = .returned (.string (dec u)) ∧ Below w.heap.size w w' := by
  by_cases h : u < 100
  · refine (fu_small u h w).mono ?_
    rintro e w' ⟨rfl, rfl⟩
    exact ⟨rfl, Below.refl _ _⟩
  · refine (fu_great u (by omega) hu w hg.pw).mono ?_
    rintro e w' ⟨rfl, k, os, rfl⟩
    exact ⟨rfl, below_grow w k os⟩
def strconv_FormatUint.f (a b : Int) : Option ByteArray := if 0 ≤ a ∧ a < 18446744073709551616 ∧ b = 10 then some (dec a.toNat) else none
set_option maxHeartbeats 1000000 in
theorem strconv_FormatUint.calls (a b : Int) (r : ByteArray) (w : World) (h : strconv_FormatUint.f a b = some r) (hg : VOK w) :
    Calls Tryd.prog 81 #[.int .u64 a, .int .i64 b] w fun e w' => e = .returned (.string r) ∧ Below w.heap.size w w' := by
  unfold strconv_FormatUint.f at h
  by_cases hc : 0 ≤ a ∧ a < 18446744073709551616 ∧ b = 10
  case neg => rw [if_neg hc] at h; cases h
  rw [if_pos hc] at h
  injection h with h
  subst h
  obtain ⟨h0, h1, rfl⟩ := hc
  obtain ⟨u, rfl⟩ := Int.eq_ofNat_of_zero_le h0
  have N := Aside0.mk (iformat u (by omega) w hg)
  rw [Int.toNat_natCast]
  generalize dec u = d at N
  clear hg h0 h1
  go_enter Tryd.func81, Tryd.ntmps81
  go_wp2_with fail
  refine N.out.mono ?_
  rintro e w' ⟨rfl, hb⟩
  replace hb := Aside0.mk hb
  go_wp2_with fail
  go_ret
  exact ⟨rfl, hb.out⟩
def numeral (n : Int) : ByteArray := ⟨(Lib.itoa n).toArray⟩
def strconv_FormatInt.f (a b : Int) : Option ByteArray := if -9223372036854775808 ≤ a ∧ a ≤ 9223372036854775807 ∧ b = 10 then some (numeral a) else none
theorem strconv_FormatInt.calls (a b : Int) (r : ByteArray) (w : World) (h : strconv_FormatInt.f a b = some r) (hg : VOK w) :
    Calls Tryd.prog 52 #[.int .i64 a, .int .i64 b] w fun e w' => e = .returned (.string r) ∧ Below w.heap.size w w' := by
  unfold strconv_FormatInt.f at h
  by_cases hc : -9223372036854775808 ≤ a ∧ a ≤ 9223372036854775807 ∧ b = 10
  case neg => rw [if_neg hc] at h; cases h
  rw [if_pos hc] at h
  injection h with h
  subst h
  obtain ⟨h0, h1, rfl⟩ := hc
  refine (Tryd.strconv_FormatInt_10 a h0 h1 w hg.pw).mono ?_
  rintro e w' ⟨rfl, k, os, rfl⟩
  exact ⟨rfl, below_grow w k os⟩
end Go.Proofs.YtbodlnoipkommaaDoor.Wk
namespace Go.Proofs.YtbodlnoipkommaaDoor.Wq
open Go.RowKit Go.Proofs.YtbodlnoipkommaaDoor.Q Go.Proofs.YtbodlnoipkommaaDoor.We Go.Proofs.YtbodlnoipkommaaDoor.Wf Go.Proofs.YtbodlnoipkommaaDoor.Wi Go.Proofs.YtbodlnoipkommaaDoor.Wk Go.Proofs.YtbodlnoipkommaaDoor.Wp Go.Proofs.YtbodlnoipkommaaDoorW.PrintWords Go.Proofs.YtbodlnoipkommaaDoorW.PrintLast Go.Proofs.YtbodlnoipkommaaDoorW.PrintMore
def dot : ByteArray := ⟨#[46]⟩
def dash : ByteArray := ⟨#[45]⟩
set_option maxRecDepth 100000 in
set_option maxHeartbeats 2000000 in
theorem dec_walk (n h l u z : Int) (q r : ByteArray) (neg : Bool) (w : World) (hg : VOK w) (hf : value_of.f n = some (h, l)) (hs : vw_size.f h l = some (z, u, neg)) (u0 : 0 ≤ u) (u1 : u ≤ 9223372036854775808)
    (hq : strconv_FormatUint.f (u / 10000) 10 = some q) (hr : strconv_FormatUint.f (10000 + u % 10000) 10 = some r) (bq : q.size ≤ 20) (br : r.size ≤ 20) (br1 : 1 ≤ r.size) :
    Calls Tryd.prog 53 #[.int .i64 n] w fun e w' => e = .returned (.string (if neg = true then dash ++ (q ++ dot ++ r.extract 1 r.size) else q ++ dot ++ r.extract 1 r.size)) ∧ Below w.heap.size w w' := by
  have N := Aside0.mk (value_of.calls n h l · hf)
  have M := Aside0.mk (vw_size.calls h l z u neg · hs)
  have A := Aside0.mk (strconv_FormatUint.calls (u / 10000) 10 q · hq)
  have B := Aside0.mk (strconv_FormatUint.calls (10000 + u % 10000) 10 r · hr)
  have G := Aside0.mk hg
  clear hf hs hq hr hg
  have k0 : 0 ≤ u / 10000 := by omega
  have k1 : 0 ≤ u % 10000 := by omega
  have k2 : u % 10000 < 10000 := by omega
  have d0 : (⟨#[46]⟩ : ByteArray) = dot := rfl
  have d1 : (⟨#[45]⟩ : ByteArray) = dash := rfl
  have z0 : dot.size = 1 := rfl
  have z1 : dash.size = 1 := rfl
  have D0 := Aside0.mk d0
  have D1 := Aside0.mk d1
  have Z0 := Aside0.mk z0
  have Z1 := Aside0.mk z1
  clear d0 d1 z0 z1
  have e1 : ¬ (9223372036854775807 < q.size + 1) := by omega
  have e2 : ¬ (9223372036854775807 < q.size + 1 + (r.size - 1)) := by omega
  have e3 : ¬ (9223372036854775807 < 1 + (q.size + 1 + (r.size - 1))) := by omega
  have e4 : 1 ≤ (r.size : Int) := by omega
  cases neg
  all_goals
    go_enter Tryd.func53, Tryd.ntmps53
    go_wp2_with fail
    refine (N.out _).mono ?_
    rintro e w1 ⟨rfl, hb1⟩
    replace hb1 := Aside0.mk hb1
    go_wp2_with fail
    refine (M.out _).mono ?_
    rintro e w2 ⟨rfl, hb2⟩
    replace hb2 := Aside0.mk hb2
    go_wp2_with fail
    refine (A.out _ (VOK.below (VOK.below G.out hb1.out) hb2.out)).mono ?_
    rintro e w3 ⟨rfl, hb3⟩
    replace hb3 := Aside0.mk hb3
    go_wp2_with fail
    refine (B.out _ (VOK.below (VOK.below (VOK.below G.out hb1.out) hb2.out) hb3.out)).mono ?_
    rintro e w4 ⟨rfl, hb4⟩
    replace hb4 := Aside0.mk hb4
    go_wp2_with fail
    go_ret
    exact ⟨rfl, below_step (below_step (below_step hb1.out hb2.out) hb3.out) hb4.out⟩
theorem dec_size (u : Nat) : (dec u).size = Lib.nDigits u := by
  show (Lib.decDigits u).toArray.size = _
  rw [List.size_toArray, Lib.decDigits_length]
theorem dec_le (u : Nat) (h : u < 18446744073709551616) : 1 ≤ (dec u).size ∧ (dec u).size ≤ 20 := by
  rw [dec_size]; exact ⟨Lib.nDigits_pos u, Lib.nDigits_le20 u h⟩
def fourS (u : Nat) : ByteArray := dec (u / 10000) ++ dot ++ (dec (10000 + u % 10000)).extract 1 (dec (10000 + u % 10000)).size
def decimalS (n : Int) : ByteArray := if n < 0 then dash ++ fourS n.natAbs else fourS n.natAbs
def value_decimal.f (n : Int) : Option ByteArray := if I64 n then some (decimalS n) else none
theorem value_decimal.calls (n : Int) (r : ByteArray) (w : World) (h : value_decimal.f n = some r) (hg : VOK w) :
    Calls Tryd.prog 53 #[.int .i64 n] w fun e w' => e = .returned (.string r) ∧ Below w.heap.size w w' := by
  unfold value_decimal.f at h
  by_cases hc : I64 n
  case neg => rw [if_neg hc] at h; cases h
  rw [if_pos hc] at h
  injection h with h
  subst h
  have ha := abs_le n hc
  have hs := size_f n (I128_of_I64 hc).1 (I128_of_I64 hc).2
  rw [lo_small ha.1 ha.2] at hs
  have hn : (if n < 0 then -n else n) = (n.natAbs : Int) := by split <;> omega
  rw [hn] at hs ha
  have l1 := dec_le (n.natAbs / 10000) (by omega)
  have l2 := dec_le (10000 + n.natAbs % 10000) (by omega)
  have fq : strconv_FormatUint.f ((n.natAbs : Int) / 10000) 10 = some (dec (n.natAbs / 10000)) := by
    unfold strconv_FormatUint.f
    rw [if_pos ⟨by omega, by omega, rfl⟩]
    congr 2
  have fr : strconv_FormatUint.f (10000 + (n.natAbs : Int) % 10000) 10 = some (dec (10000 + n.natAbs % 10000)) := by
    unfold strconv_FormatUint.f
    rw [if_pos ⟨by omega, by omega, rfl⟩]
    congr 2
  have := dec_walk n _ _ _ _ _ _ (decide (n < 0)) w hg (of_f n hc) hs ha.1 ha.2 fq fr l1.2 l2.2 l2.1
  refine this.mono ?_
  rintro e w' ⟨rfl, hb⟩
  refine ⟨?_, hb⟩
  unfold decimalS fourS
  simp only [decide_eq_true_eq]
end Go.Proofs.YtbodlnoipkommaaDoor.Wq
namespace Go.Proofs.YtbodlnoipkommaaDoor.Wr
open Go.RowKit Go.Proofs.YtbodlnoipkommaaDoor.Q Go.Proofs.YtbodlnoipkommaaDoor.Wh Go.Proofs.YtbodlnoipkommaaDoor.Wi Go.Proofs.YtbodlnoipkommaaDoorW.PrintWords Go.Proofs.YtbodlnoipkommaaDoorW.PrintLast Go.Proofs.YtbodlnoipkommaaDoorW.PrintMore
section
variable {P : Program} {w : World}
def RowM (e : TypeId) (base : Nat) (w : World) (v : Value) (xs : List Value) : Prop :=
  ∃ g cap cur fz, v = .slice (some ⟨g, 0, none⟩) xs.length cap ∧ base ≤ g ∧ w.heap[g]? = some (.cells cur e fz) ∧ (xs.length < cap → fz = (0, 0)) ∧ xs.length ≤ cap ∧ cap ≤ maxLen ∧ cur.size = cap ∧ cur.toList.take xs.length = xs
theorem RowM.below {e : TypeId} {base : Nat} {w1 : World} {v : Value} {xs : List Value} (h : RowM e base w v xs) (hb : Below w.heap.size w w1) : RowM e base w1 v xs := by
  obtain ⟨g, cap, cur, fz, h1, h2, h3, h4⟩ := h
  exact ⟨g, cap, cur, fz, h1, h2, blk_below h3 hb, h4⟩
theorem RowM.base_le {e : TypeId} {base : Nat} {v : Value} {xs : List Value} (h : RowM e base w v xs) : ∀ k, v.ownBlock = some k → base ≤ k := by
  obtain ⟨g, cap, cur, fz, rfl, h2, _⟩ := h
  intro k hk
  injection hk with hk
  exact hk ▸ h2
theorem wp_append_M {o : Oper} {a : Act} {K : Act → World → Prop} {Q : Exit → Act → World → Prop} (s x : Operand) (t : TypeId)
    (ho : o.op = .call { callee := .builtin .append, args := #[s, x], argTypes := #[t, t] })
    (base : Nat) (e : TypeId) (i : TypeInfo) (z : Value) (ht : P.underlying t = some (.slice e)) (hi : P.info? e = some i) (hz : i.zero = some z)
    (hsize : i.size = 1) (hby : i.bytes = 1) (hzs : z.cells.size = 1)
    (v : Value) (xs : List Value) (hs : a.eval s = v) (hown : RowM e base w v xs)
    (ad : Addr) (m c : Nat) (news : List Value) (hx : a.eval x = .slice (some ad) m c) (hl : news.length = m) (hnews : ∀ j u, news[j]? = some u → w.cell? (ad.add j) = some u) (h1 : ∀ u ∈ news, u.oneCell' = true)
    (hm : 0 < m) (h63 : xs.length + m ≤ 1000000) (hbase : base ≤ w.heap.size)
    (h : ∀ v' w', RowM e base w' v' (xs ++ news) → RowM e base w' v xs → w.grownBy w' v.ownBlock → K (a.put o.dst v') w') : o.wp P a w K Q := by
  obtain ⟨g, cap, cur, fz, rfl, hb, hh, hf, hn, hc, hcs, htk⟩ := hown
  have e0 : (xs ++ news).length = xs.length + m := by rw [List.length_append, hl]
  by_cases hlt : xs.length + m ≤ cap
  · have hfz := hf (by omega)
    subst hfz
    have hr := run_append_roomF (P := P) w t o.type e i ht hi g xs.length cap cur (0, 0) hh (Nat.zero_le _) ad m c news (by rw [hsize, Nat.mul_one]; exact hl) hnews h1 hlt (by rw [hsize, hl, hcs]; omega)
    rw [hsize, Nat.mul_one, htk] at hr
    unfold Oper.wp execOp
    simp only [ho, resolve, invoke, builtin, Sem.run_bind, Sem.run_pure, Result.andThen_ok, List.map_toArray, List.map_cons, List.map_nil, hs, hx, hr]
    have hsz : (xs ++ news ++ cur.toList.drop (xs.length + news.length)).toArray.size = cap := by
      simp only [List.size_toArray, List.length_append, List.length_drop, Array.length_toList]
      omega
    refine h _ _ ⟨g, cap, _, (0, 0), by rw [e0], hb, setRow_heap w g cur _ e _ hh, fun _ => rfl, by omega, hc, hsz, ?_⟩ ⟨g, cap, _, (0, 0), rfl, hb, setRow_heap w g cur _ e _ hh, fun _ => rfl, hn, hc, hsz, ?_⟩ ⟨rfl, rfl, rfl, by simp, fun k _ hk => setRow_other w g k _ (fun e => hk (by simp [Value.ownBlock, e]))⟩
    · rw [List.take_left' rfl]
    · simp only [List.append_assoc]
      rw [List.take_left' rfl]
  · have hcur : ∀ (j : Nat) (u : Value), xs[j]? = some u → cur.toList[j]? = some u := by
      intro j u hj
      rw [← htk, List.getElem?_take] at hj
      split at hj
      · exact hj
      · cases hj
    have holds : ∀ j u, xs[j]? = some u → w.cell? ((⟨g, 0, none⟩ : Addr).add j) = some u := by
      intro j u hj
      refine World.news_of_block hh j u ?_
      exact hcur j u hj
    have hr := run_append_grow (P := P) w t o.type e i z ht hi hz ⟨g, 0, none⟩ xs.length cap xs (by rw [hsize, Nat.mul_one]) holds ad m c news (by rw [hsize, Nat.mul_one]; exact hl) hnews (by omega) (by omega) (growslice_fits (by omega) (by rw [hby]; omega))
    have hge := grownCap_ge w (xs.length + m) cap e
    have hcm2 : grownCap w (xs.length + m) cap e ≤ maxLen := grownCap_le_maxLen w (xs.length + m) cap e (by unfold maxLen; omega)
    unfold Oper.wp execOp
    simp only [ho, resolve, invoke, builtin, Sem.run_bind, Sem.run_pure, Result.andThen_ok, List.map_toArray, List.map_cons, List.map_nil, hs, hx, hr]
    refine h _ _ ⟨w.heap.size, _, _, (0, 0), by rw [e0], hbase, heap_alloc_new w.drew _, fun _ => rfl, by rw [e0]; exact hge, hcm2, ?_, ?_⟩ ⟨g, cap, cur, fz, rfl, hb, (heap_alloc_old w.drew _ (blk_lt hh)).trans hh, hf, hn, hc, hcs, htk⟩ ⟨rfl, rfl, rfl, by simp, fun k hk _ => heap_alloc_old w.drew _ hk⟩
    · simp only [Array.size_append, List.size_toArray, size_zeroCells, hzs, Nat.mul_one]
      rw [hl]; omega
    · simp only [Array.toList_append]
      rw [List.take_left' rfl]
theorem step_append_M {ops : Array Oper} {o : Oper} {a : Act} {K : Act → World → Prop} {Q : Exit → Act → World → Prop} {E : Prop} (hgd : o.guard = none) (s x : Operand) (t : TypeId)
    (ho : o.op = .call { callee := .builtin .append, args := #[s, x], argTypes := #[t, t] })
    (base : Nat) (e : TypeId) (i : TypeInfo) (z : Value) (ht : P.underlying t = some (.slice e)) (hi : P.info? e = some i) (hz : i.zero = some z)
    (hsize : i.size = 1) (hby : i.bytes = 1) (hzs : z.cells.size = 1)
    (v : Value) (xs : List Value) (hs : a.eval s = v) (hown : RowM e base w v xs)
    (ad : Addr) (m c : Nat) (news : List Value) (hx : a.eval x = .slice (some ad) m c) (hl : news.length = m) (hnews : ∀ j u, news[j]? = some u → w.cell? (ad.add j) = some u) (h1 : ∀ u ∈ news, u.oneCell' = true)
    (hm : 0 < m) (h63 : xs.length + m ≤ 1000000) (hbase : base ≤ w.heap.size)
    (h : ∀ v' w', RowM e base w' v' (xs ++ news) → RowM e base w' v xs → w.grownBy w' v.ownBlock → K (a.put o.dst v') w') :
    if Region.wanted o (yielded ops a.tmps) = true then Oper.wp P o a w K Q else E := by
  have hw : Region.wanted o (yielded ops a.tmps) = true := by simp [Region.wanted, hgd]
  rw [if_pos hw]
  exact wp_append_M s x t ho base e i z ht hi hz hsize hby hzs v xs hs hown ad m c news hx hl hnews h1 hm h63 hbase h
theorem wpList_append_M {ops : Array Oper} {rest : List Oper} {o : Oper} {a : Act} {Q : Exit → Act → World → Prop} (hgd : o.guard = none) (s x : Operand) (t : TypeId)
    (ho : o.op = .call { callee := .builtin .append, args := #[s, x], argTypes := #[t, t] })
    (base : Nat) (e : TypeId) (i : TypeInfo) (z : Value) (ht : P.underlying t = some (.slice e)) (hi : P.info? e = some i) (hz : i.zero = some z)
    (hsize : i.size = 1) (hby : i.bytes = 1) (hzs : z.cells.size = 1)
    (v : Value) (xs : List Value) (hs : a.eval s = v) (hown : RowM e base w v xs)
    (ad : Addr) (m c : Nat) (news : List Value) (hx : a.eval x = .slice (some ad) m c) (hl : news.length = m) (hnews : ∀ j u, news[j]? = some u → w.cell? (ad.add j) = some u) (h1 : ∀ u ∈ news, u.oneCell' = true)
    (hm : 0 < m) (h63 : xs.length + m ≤ 1000000) (hbase : base ≤ w.heap.size)
    (h : ∀ v' w', RowM e base w' v' (xs ++ news) → RowM e base w' v xs → w.grownBy w' v.ownBlock → wpList P ops Q rest (a.put o.dst v') w') : wpList P ops Q (o :: rest) a w :=
  wpList_plain hgd fun _ hK => wp_append_M s x t ho base e i z ht hi hz hsize hby hzs v xs hs hown ad m c news hx hl hnews h1 hm h63 hbase fun v' w' h2 h3 h4 => hK _ _ (h v' w' h2 h3 h4)
end
end Go.Proofs.YtbodlnoipkommaaDoor.Wr
namespace Go.Proofs.YtbodlnoipkommaaDoor.Ws
open Go.RowKit Go.Proofs.YtbodlnoipkommaaDoor.Q Go.Proofs.YtbodlnoipkommaaDoor.Wh Go.Proofs.YtbodlnoipkommaaDoor.Wi Go.Proofs.YtbodlnoipkommaaDoor.Wr Go.Proofs.YtbodlnoipkommaaDoorW.PrintWords Go.Proofs.YtbodlnoipkommaaDoorW.PrintLast Go.Proofs.YtbodlnoipkommaaDoorW.PrintMore
def bv (l : List UInt8) : List Value := l.map fun b => .int .u8 (b.toNat : Int)
def hexd (n : Nat) : UInt8 := if n < 10 then UInt8.ofNat (48 + n) else UInt8.ofNat (87 + n)
def hexs (l : List UInt8) : List UInt8 := l.flatMap fun b => [hexd (b.toNat / 16), hexd (b.toNat % 16)]
theorem info5 : (Tryd.prog.info? 5).map (fun i => (i.zero, i.size, i.bytes)) = some (some (.int .u8 0), 1, 1) := by kernel_rfl
theorem bv_len (l : List UInt8) : (bv l).length = l.length := List.length_map _
theorem hexs_len (l : List UInt8) : (hexs l).length = 2 * l.length := by
  unfold hexs
  induction l with
  | nil => rfl
  | cons a l ih => rw [List.flatMap_cons, List.length_append, ih]; simp; omega
theorem bv_append (a b : List UInt8) : bv (a ++ b) = bv a ++ bv b := List.map_append
theorem to_text {base : Nat} {w : World} {v : Value} {l : List UInt8} (h : RowM 5 base w v (bv l)) : (convert 68 9 v).run Tryd.prog w = .ok (.string ⟨l.toArray⟩) w := by
  obtain ⟨g, cap, cur, fz, rfl, hb, hh, hf, hn, hc, hcs, htk⟩ := h
  rw [bv_len] at *
  refine run_convert_bytes_back (P := Tryd.prog) w 68 9 5 ⟨g, 0, none⟩ cap l Tryd.underlying68 Tryd.underlying5 Tryd.underlying9 (fun j hj => ?_)
  have hj2 : (bv l)[j]? = some (.int .u8 (l[j].toNat : Int)) := by
    unfold bv
    rw [List.getElem?_map, List.getElem?_eq_getElem hj]; rfl
  rw [← htk, List.getElem?_take] at hj2
  rw [if_pos hj] at hj2
  exact World.news_of_block hh j _ hj2
def digs : ByteArray := ⟨#[48, 49, 50, 51, 52, 53, 54, 55, 56, 57, 97, 98, 99, 100, 101, 102]⟩
theorem dig_int (n : Int) (h0 : 0 ≤ n) (h1 : n < 16) : (((⟨#[48, 49, 50, 51, 52, 53, 54, 55, 56, 57, 97, 98, 99, 100, 101, 102]⟩ : ByteArray)[n.toNat]'(by show n.toNat < 16; omega)).toNat : Int) = ((hexd n.toNat).toNat : Int) := by
  have : n = 0 ∨ n = 1 ∨ n = 2 ∨ n = 3 ∨ n = 4 ∨ n = 5 ∨ n = 6 ∨ n = 7 ∨ n = 8 ∨ n = 9 ∨ n = 10 ∨ n = 11 ∨ n = 12 ∨ n = 13 ∨ n = 14 ∨ n = 15 := by omega
  rcases this with rfl | rfl | rfl | rfl | rfl | rfl | rfl | rfl | rfl | rfl | rfl | rfl | rfl | rfl | rfl | rfl <;> rfl
theorem hex_snoc (s : ByteArray) (k : Nat) (h : k < s.size) : bv ([120, 39] ++ hexs (s.data.toList.take (k + 1))) = bv ([120, 39] ++ hexs (s.data.toList.take k)) ++ [.int .u8 (hexd (s[k].toNat / 16)).toNat, .int .u8 (hexd (s[k].toNat % 16)).toNat] := by
  have e : s.data.toList.take (k + 1) = s.data.toList.take k ++ [s[k]] := by
    rw [List.take_succ_eq_append_getElem (by simpa using h)]; rfl
  rw [e]
  unfold hexs bv
  rw [List.flatMap_append, ← List.append_assoc, List.map_append]
  rfl
set_option maxRecDepth 100000 in
set_option maxHeartbeats 2000000 in
theorem bytes_walk (n : Int) (s : ByteArray) (w : World) (hr : rightB 5 n s = true) (hs : s.size ≤ 200) :
    Calls Tryd.prog 16 #[.agg #[.int .u8 5, .int .i64 n, .string s]] w fun e w' => e = .returned (.string ⟨([120, 39] ++ hexs s.data.toList ++ [39]).toArray⟩) ∧ Below w.heap.size w w' := by
  have N := Aside0.mk (value_Right.calls 1 5 n s (rightB 5 n s) · (right_f 0 5 n s))
  rw [hr] at N
  clear hr
  have hcv := fun W => Lib.run_convert_bytes_const (P := Tryd.prog) W 68 5 #[.int .u8 120, .int .u8 39] 2 2 Tryd.underlying68 Tryd.underlying5
  go_enter Tryd.func16, Tryd.ntmps16
  go_wp2_with fail
  refine (N.out _).mono ?_
  rintro e w1 ⟨rfl, hb1⟩
  obtain ⟨c10, f10, l10⟩ : (∀ o, w1.cell? ⟨w.heap.size, o, none⟩ = (w.alloc (.cells #[.int .u8 5, .int .i64 n, .string s] 25)).cell? ⟨w.heap.size, o, none⟩) ∧ (∀ o, w1.frozen? ⟨w.heap.size, o, none⟩ = (w.alloc (.cells #[.int .u8 5, .int .i64 n, .string s] 25)).frozen? ⟨w.heap.size, o, none⟩) ∧ w.heap.size < w1.heap.size := by
    obtain ⟨c1, f1⟩ := bcell hb1
    have := hb1.size
    exact ⟨fun o => c1 _ o (by simp), fun o => f1 _ o (by simp), by simp at this; omega⟩
  replace hb1 := Aside0.mk hb1
  go_wp2_with fail
  have hbox : ∀ W, Below w1.heap.size w1 W → W.cell? ⟨w.heap.size, 2, none⟩ = some (.string s) := fun W h => pw_cell_below h (by go_simp)
  have hst : RowM 5 w1.heap.size (w1.alloc (.cells #[.int .u8 120, .int .u8 39] 5 (2, 3))) (.slice (some ⟨w1.heap.size, 0, none⟩) 2 2) (bv [120, 39]) := ⟨w1.heap.size, 2, #[.int .u8 120, .int .u8 39], (2, 3), rfl, Nat.le_refl _, heap_alloc_new _ _, fun h => absurd h (by decide), Nat.le_refl _, by unfold maxLen; omega, rfl, rfl⟩
  replace hst := Aside0.mk hst
  have hsz : (s.size : Int) ≤ 200 := by omega
  go_loopw [3, 40] (fun v i W => ∃ k : Nat, k ≤ s.size ∧ i = .int .i64 k ∧ Aside0 (RowM 5 w1.heap.size W v (bv ([120, 39] ++ hexs (s.data.toList.take k)))) ∧ Aside0 (Below w1.heap.size w1 W)) (fun _ i _ => s.size - (intOf i).toNat)
  case atStart => exact ⟨0, Nat.zero_le _, rfl, hst, ⟨below_alloc (Below.refl _ _) _⟩⟩
  case round =>
    obtain ⟨k, hk, rfl, hrow, hbel⟩ := hrel
    have hln : (bv ([120, 39] ++ hexs (s.data.toList.take k))).length ≤ 500 := by
      rw [bv_len, List.length_append, hexs_len, List.length_take]; simp; omega
    have hbs := below_size hbel.out
    obtain ⟨i0, hi0, hz0, hz1, hz2⟩ := info_parts info5
    by_cases hlt : k < s.size
    · have hb0 : (s[k].toNat : Int) < 256 := by have := s[k].toNat_lt; omega
      have hb1' : 0 ≤ (s[k].toNat : Int) / 16 := by omega
      have hb2 : (s[k].toNat : Int) / 16 < 16 := by omega
      have hb3 : 0 ≤ (s[k].toNat : Int) % 16 := by omega
      have hb4 : (s[k].toNat : Int) % 16 < 16 := by omega
      have hand : bits .and .u8 (s[k].toNat : Int) 15 = (s[k].toNat : Int) % 16 := by
        have h := u8_and_nat s[k].toNat 15 s[k].toNat_lt (by omega)
        rw [show s[k].toNat &&& 15 = s[k].toNat % 16 from Nat.and_two_pow_sub_one_eq_mod _ 4] at h
        rw [Int.natCast_emod] at h
        exact h
      have St0 := Aside0.mk (show Below w1.heap.size w1 wr.drew ∧ RowM 5 w1.heap.size wr.drew u3 (bv ([120, 39] ++ hexs (s.data.toList.take k))) from ⟨below_drew1 hbel.out, RowM.below hrow.out (below_drew1 (Below.refl _ _))⟩)
      go_wp2
      go_region_held3 (fun W => Below w1.heap.size w1 W ∧ RowM 5 w1.heap.size W u3 (bv ([120, 39] ++ hexs (s.data.toList.take k))))
        (first | (with_reducible exact St0.out) | (go_split_ands; exact ⟨Below.alloc (by assumption) (by first | exact hbs | (simp; omega)) _, RowM.below (by assumption) (below_alloc (Below.refl _ _) _)⟩) | (go_split_ands; exact ⟨pw_below_grown (by assumption) _ (by simp; omega) hgr2 (RowM.base_le (by assumption)), hold2⟩))
        (first | ((refine step_append_M rfl _ _ 68 rfl w1.heap.size 5 i0 (.int .u8 0) Tryd.underlying68 hi0 hz0 hz1 hz2 rfl _ _ rfl (by go_split_ands; assumption) _ _ _ _ rfl (by rfl) (World.news_of_block (t := 5) (fr := (0, 0)) (heap_alloc_new wr.drew _)) (by simp [Value.oneCell']) (by omega) (by omega) (by simp; omega) ?_; intro v2 w2 hrow2 hold2 hgr2)))
      all_goals
        have hsn : bv ([120, 39] ++ hexs (s.data.toList.take (k + 1))) = bv ([120, 39] ++ hexs (s.data.toList.take k)) ++ [.int .u8 (hexd (s[k].toNat / 16)).toNat, .int .u8 (hexd (s[k].toNat % 16)).toNat] := hex_snoc s k hlt
        rw [dig_int _ hb1' hb2, dig_int _ hb3 hb4] at hrow2
        have hrow3 : RowM 5 w1.heap.size w2 v2 (bv ([120, 39] ++ hexs (s.data.toList.take (k + 1)))) := by rw [hsn]; exact hrow2
        replace hrow3 := Aside0.mk hrow3
        have hbel2 := Aside0.mk (show Below w1.heap.size w1 w2 from pw_below_grown (Below.alloc (below_drew1 hbel.out) hbs _) _ (by simp; omega) hgr2 (RowM.base_le hrow.out))
        clear hrow2 hold2 hgr2 hsn
        go_wp2
        go_roundw
        case rel => exact ⟨k + 1, by omega, by go_num, hrow3, hbel2⟩
        case measure => simp [intOf]; omega
    · have hkk : k = s.size := by omega
      have htk : s.data.toList.take k = s.data.toList := List.take_of_length_le (by rw [hkk]; exact Nat.le_refl _)
      rw [htk] at hrow hln
      clear htk
      go_wp2_with (at_builtin; refine wpList_append_M rfl _ _ 68 rfl w1.heap.size 5 i0 (.int .u8 0) Tryd.underlying68 hi0 hz0 hz1 hz2 rfl _ _ rfl (RowM.below hrow.out (below_alloc (Below.refl _ _) _)) ⟨wr.heap.size, 0, none⟩ 1 1 [.int .u8 39] rfl rfl (World.news_of_block (cs := #[.int .u8 39]) (t := 5) (fr := (0, 0)) (heap_alloc_new wr _)) (by simp [Value.oneCell']) (by omega) (by omega) (by simp; omega) ?_; intro v2 w2 hrow2 hold2 hgr2; have hcv2 := to_text (l := [120, 39] ++ hexs s.data.toList ++ [39]) (by rw [bv_append]; exact hrow2); have hbel2 := Aside0.mk (show Below w1.heap.size w1 w2 from pw_below_grown (Below.alloc hbel.out hbs _) _ (by simp; omega) hgr2 (RowM.base_le hrow.out)); clear hrow2 hold2 hgr2)
      go_ret
      exact ⟨rfl, below_step (below_step (below_alloc (Below.refl _ _) _) hb1.out) hbel2.out⟩
end Go.Proofs.YtbodlnoipkommaaDoor.Ws
namespace Go.Proofs.YtbodlnoipkommaaDoor.Q
open Go.RowKit Go.Proofs.YtbodlnoipkommaaDoorW.PrintWords Go.Proofs.YtbodlnoipkommaaDoorW.PrintLast Go.Proofs.YtbodlnoipkommaaDoorW.PrintMore
attribute [local go_sem] max2_int min2_int max_two min_two max_three min_three max_four min_four
set_option linter.unusedVariables false
set_option linter.unusedSimpArgs false
def strconv_FormatBool_79.f (a0 : Bool) : Option (ByteArray) := if a0 = true then (some (⟨#[116, 114, 117, 101]⟩ : ByteArray)) else (some (⟨#[102, 97, 108, 115, 101]⟩ : ByteArray))
set_option maxHeartbeats 8000000 in
set_option maxRecDepth 100000 in
theorem strconv_FormatBool_79.calls (a0 : Bool) (r : ByteArray) (w : World) (h : strconv_FormatBool_79.f a0 = some r) :
  Calls Tryd.prog 79 #[.bool a0] w fun e w' => e = .returned (.string r) ∧ Drawn0 w w' := by
 have H : (if a0 = true then (some (⟨#[116, 114, 117, 101]⟩ : ByteArray)) else (some (⟨#[102, 97, 108, 115, 101]⟩ : ByteArray))) = some r := h
 clear h
 by_cases c2 : a0 = true
 ·subst c2
  have H1 : (some (⟨#[116, 114, 117, 101]⟩ : ByteArray)) = some r := by rw [if_pos rfl] at H; exact H
  clear H
  have H := H1
  clear H1
  obtain rfl := Option.some.inj H
  go_enter Tryd.func79, Tryd.ntmps79
  go_wp2
  go_ret
  exact ⟨by first | rfl | (simp; done) | (simp [*]; done), by repeat (first | exact Drawn0.refl _ | apply Drawn0.step)⟩
 ·replace c2 := Bool.eq_false_iff.mpr c2
  subst c2
  have H1 : (some (⟨#[102, 97, 108, 115, 101]⟩ : ByteArray)) = some r := by rw [if_neg (show ¬ (false = true) by decide)] at H; exact H
  clear H
  have H := H1
  clear H1
  obtain rfl := Option.some.inj H
  go_enter Tryd.func79, Tryd.ntmps79
  go_wp2
  go_ret
  exact ⟨by first | rfl | (simp; done) | (simp [*]; done), by repeat (first | exact Drawn0.refl _ | apply Drawn0.step)⟩
end Go.Proofs.YtbodlnoipkommaaDoor.Q
namespace Go.Proofs.YtbodlnoipkommaaDoor.Q
open Go.RowKit Go.Proofs.YtbodlnoipkommaaDoorW.PrintWords Go.Proofs.YtbodlnoipkommaaDoorW.PrintLast Go.Proofs.YtbodlnoipkommaaDoorW.PrintMore
attribute [local go_sem] max2_int min2_int max_two min_two max_three min_three max_four min_four
set_option linter.unusedVariables false
set_option linter.unusedSimpArgs false
def strconv_FormatBool_51.f (a0 : Bool) : Option (ByteArray) := (strconv_FormatBool_79.f a0).bind fun t138 => (some t138)
set_option maxHeartbeats 8000000 in
set_option maxRecDepth 100000 in
theorem strconv_FormatBool_51.calls (a0 : Bool) (r : ByteArray) (w : World) (h : strconv_FormatBool_51.f a0 = some r) :
  Calls Tryd.prog 51 #[.bool a0] w fun e w' => e = .returned (.string r) ∧ Drawn0 w w' := by
 have H : ((strconv_FormatBool_79.f a0).bind fun t138 => (some t138)) = some r := h
 clear h
 replace H := Option.bind_eq_some_iff.mp H
 obtain ⟨t138, A20, H⟩ := H
 replace H : (some t138) = some r := H
 have A2 := Aside0.mk A20
 clear A20
 obtain rfl := Option.some.inj H
 go_enter Tryd.func51, Tryd.ntmps51
 go_wp2_with (first | ((with_reducible refine gate_callee (f := 79) rfl ?_); refine goesL_ (some 4) rfl rfl Tryd.func79 (by kernel_rfl) rfl #[.bool a0] rfl (by (try simp only [List.map_toArray, List.map_cons, List.map_nil]); first | done | rfl | (simp only [List.length_drop, List.length_take]; rfl)) ?_; (with_reducible refine (strconv_FormatBool_79.calls a0 t138 _ A2.out).mono ?_); rintro e w' ⟨rfl, ⟨nd, rfl⟩⟩; refine ⟨_, rfl, ?_⟩))
 go_ret
 exact ⟨by first | rfl | (simp; done) | (simp [*]; done), by repeat (first | exact Drawn0.refl _ | apply Drawn0.step)⟩
end Go.Proofs.YtbodlnoipkommaaDoor.Q
namespace Go.Proofs.YtbodlnoipkommaaDoor.Wt
open Go.RowKit Go.Proofs.YtbodlnoipkommaaDoor.Q Go.Proofs.YtbodlnoipkommaaDoor.Wf Go.Proofs.YtbodlnoipkommaaDoor.Wh Go.Proofs.YtbodlnoipkommaaDoor.Wi Go.Proofs.YtbodlnoipkommaaDoor.Wk Go.Proofs.YtbodlnoipkommaaDoor.Wp Go.Proofs.YtbodlnoipkommaaDoor.Wq Go.Proofs.YtbodlnoipkommaaDoor.Ws Go.Proofs.YtbodlnoipkommaaDoorW.PrintWords Go.Proofs.YtbodlnoipkommaaDoorW.PrintLast Go.Proofs.YtbodlnoipkommaaDoorW.PrintMore
def quoted (l : List UInt8) : List UInt8 := l.flatMap fun b => if b = 39 then [39, 39] else [b]
theorem quoted_cons (b : UInt8) (l : List UInt8) : quoted (b :: l) = (if b = 39 then [39, 39] else [b]) ++ quoted l := List.flatMap_cons
theorem quoted_len : ∀ l : List UInt8, (quoted l).length ≤ 2 * l.length
  | [] => by simp [quoted]
  | b :: l => by
    have := quoted_len l
    rw [quoted_cons, List.length_append]
    split <;> simp <;> omega
theorem replaceK_quoted : ∀ l : List UInt8, Lib.replaceK [39] [39, 39] (Lib.count l [39]) l = quoted l
  | [] => rfl
  | b :: l => by
    have ih := replaceK_quoted l
    by_cases hb : b = 39
    · subst hb
      rw [Lib.count_cons_eq, Nat.add_comm, Lib.replaceK_hit [39] [39, 39] _ _ 0 (by rw [Lib.index_one]; rfl), quoted_cons, if_pos rfl]
      simp only [List.take_zero, List.nil_append, List.length_singleton, Nat.zero_add, List.drop_succ_cons, List.drop_zero]
      rw [ih]
    · rw [Lib.count_cons_ne _ _ _ hb, quoted_cons, if_neg hb]
      cases hk : Lib.count l [39] with
      | zero => rw [hk] at ih; rw [← ih]; rfl
      | succ k =>
        obtain ⟨i, hi⟩ := Lib.index_of_count (s := l) (old := [39]) (by rw [hk]; omega)
        have hi1 : Lib.index (b :: l) [39] = ((i + 1 : Nat) : Int) := by
          rw [Lib.index_one] at hi ⊢
          rw [Lib.indexByte, if_neg (by simpa using hb), if_neg (by rw [hi]; simp), hi]; omega
        rw [hk] at ih
        rw [Lib.replaceK_hit [39] [39, 39] k l i hi] at ih
        rw [Lib.replaceK_hit [39] [39, 39] k (b :: l) (i + 1) hi1, ← ih]
        simp [Nat.add_right_comm]
theorem replaceAll_quoted (l : List UInt8) : Lib.replaceAll l [39] [39, 39] = quoted l := by
  unfold Lib.replaceAll Lib.replace
  rw [if_neg (by decide)]
  unfold Lib.replaceNum
  rw [if_pos (Or.inl (by decide))]
  exact replaceK_quoted l
theorem replace_f (s : ByteArray) (hs : s.size ≤ 200) : strings_ReplaceAll.f s ⟨#[39]⟩ ⟨#[39, 39]⟩ = some ⟨(quoted s.data.toList).toArray⟩ := by
  unfold strings_ReplaceAll.f
  have hc := Lib.countB_le ⟨#[39]⟩ (by decide) s.size s (Nat.le_refl _)
  have h2 : (⟨#[39, 39]⟩ : ByteArray).size = 2 := rfl
  rw [if_pos ⟨by omega, by decide, by rw [h2]; omega⟩]
  exact congrArg (fun l => some (⟨List.toArray l⟩ : ByteArray)) (replaceAll_quoted s.data.toList)
def printR (k n : Int) (s : ByteArray) : ByteArray :=
  if rightB k n s = false then ⟨#[]⟩ else
  if k = 0 then ⟨#[110, 117, 108, 108]⟩ else
  if k = 1 then (if n = 1 then ⟨#[116, 114, 117, 101]⟩ else ⟨#[102, 97, 108, 115, 101]⟩) else
  if k = 2 then numeral n else
  if k = 3 then decimalS n else
  if k = 4 then ⟨#[39]⟩ ++ ⟨(quoted s.data.toList).toArray⟩ ++ ⟨#[39]⟩ else
  ⟨([120, 39] ++ hexs s.data.toList ++ [39]).toArray⟩
set_option maxRecDepth 100000 in
set_option maxHeartbeats 1000000 in
theorem p_wrong (k n : Int) (s : ByteArray) (w : World) (hr : rightB k n s = false) :
    Calls Tryd.prog 16 #[.agg #[.int .u8 k, .int .i64 n, .string s]] w fun e w' => e = .returned (.string ⟨#[]⟩) ∧ Below w.heap.size w w' := by
  have N := Aside0.mk (value_Right.calls 1 k n s (rightB k n s) · (right_f 0 k n s))
  rw [hr] at N
  clear hr
  go_enter Tryd.func16, Tryd.ntmps16
  go_wp2_with fail
  refine (N.out _).mono ?_
  rintro e w1 ⟨rfl, hb1⟩
  replace hb1 := Aside0.mk hb1
  go_wp2_with fail
  go_ret
  exact ⟨rfl, below_step (below_alloc (Below.refl _ _) _) hb1.out⟩
theorem rightstep {w w1 : World} (n k : Int) (s : ByteArray) (hb1 : Below (w.alloc (.cells #[.int .u8 k, .int .i64 n, .string s] 25)).heap.size (w.alloc (.cells #[.int .u8 k, .int .i64 n, .string s] 25)) w1) :
    (∀ o, w1.cell? ⟨w.heap.size, o, none⟩ = (w.alloc (.cells #[.int .u8 k, .int .i64 n, .string s] 25)).cell? ⟨w.heap.size, o, none⟩) ∧ Below w.heap.size w w1 := by
  obtain ⟨c1, f1⟩ := bcell hb1
  exact ⟨fun o => c1 _ o (by simp), below_step (below_alloc (Below.refl _ _) _) hb1⟩
set_option maxRecDepth 100000 in
set_option maxHeartbeats 1000000 in
theorem p_null (n : Int) (s : ByteArray) (w : World) (hr : rightB 0 n s = true) :
    Calls Tryd.prog 16 #[.agg #[.int .u8 0, .int .i64 n, .string s]] w fun e w' => e = .returned (.string ⟨#[110, 117, 108, 108]⟩) ∧ Below w.heap.size w w' := by
  have N := Aside0.mk (value_Right.calls 1 0 n s (rightB 0 n s) · (right_f 0 0 n s))
  rw [hr] at N
  clear hr
  go_enter Tryd.func16, Tryd.ntmps16
  go_wp2_with fail
  refine (N.out _).mono ?_
  rintro e w1 ⟨rfl, hb1⟩
  obtain ⟨c1, b1⟩ := rightstep _ _ _ hb1
  clear hb1
  replace b1 := Aside0.mk b1
  go_wp2_with fail
  go_ret
  exact ⟨rfl, b1.out⟩
set_option maxRecDepth 100000 in
set_option maxHeartbeats 1000000 in
theorem p_bool (n : Int) (s : ByteArray) (w : World) (hr : rightB 1 n s = true) (r : ByteArray) (hf : strconv_FormatBool_51.f (n == 1) = some r) :
    Calls Tryd.prog 16 #[.agg #[.int .u8 1, .int .i64 n, .string s]] w fun e w' => e = .returned (.string r) ∧ Below w.heap.size w w' := by
  have N := Aside0.mk (value_Right.calls 1 1 n s (rightB 1 n s) · (right_f 0 1 n s))
  have M := Aside0.mk (strconv_FormatBool_51.calls (n == 1) r · hf)
  rw [hr] at N
  clear hr hf
  go_enter Tryd.func16, Tryd.ntmps16
  go_wp2_with fail
  refine (N.out _).mono ?_
  rintro e w1 ⟨rfl, hb1⟩
  obtain ⟨c1, b1⟩ := rightstep _ _ _ hb1
  clear hb1
  replace b1 := Aside0.mk b1
  go_wp2_with fail
  refine (M.out _).mono ?_
  rintro e w2 ⟨rfl, hb2⟩
  replace hb2 := Aside0.mk hb2
  go_wp2_with fail
  go_ret
  exact ⟨rfl, below_step b1.out (by first | exact hb2.out | exact hb2.out.below)⟩
set_option maxRecDepth 100000 in
set_option maxHeartbeats 1000000 in
theorem p_int (n : Int) (s : ByteArray) (w : World) (hg : VOK w) (hr : rightB 2 n s = true) (r : ByteArray) (hf : strconv_FormatInt.f n 10 = some r) :
    Calls Tryd.prog 16 #[.agg #[.int .u8 2, .int .i64 n, .string s]] w fun e w' => e = .returned (.string r) ∧ Below w.heap.size w w' := by
  have N := Aside0.mk (value_Right.calls 1 2 n s (rightB 2 n s) · (right_f 0 2 n s))
  have M := Aside0.mk (strconv_FormatInt.calls n 10 r · hf)
  have G := Aside0.mk hg
  rw [hr] at N
  clear hr hf hg
  go_enter Tryd.func16, Tryd.ntmps16
  go_wp2_with fail
  refine (N.out _).mono ?_
  rintro e w1 ⟨rfl, hb1⟩
  obtain ⟨c1, b1⟩ := rightstep _ _ _ hb1
  clear hb1
  replace b1 := Aside0.mk b1
  go_wp2_with fail
  refine (M.out _ (VOK.below G.out b1.out)).mono ?_
  rintro e w2 ⟨rfl, hb2⟩
  replace hb2 := Aside0.mk hb2
  go_wp2_with fail
  go_ret
  exact ⟨rfl, below_step b1.out hb2.out⟩
set_option maxRecDepth 100000 in
set_option maxHeartbeats 1000000 in
theorem p_dec (n : Int) (s : ByteArray) (w : World) (hg : VOK w) (hr : rightB 3 n s = true) (r : ByteArray) (hf : value_decimal.f n = some r) :
    Calls Tryd.prog 16 #[.agg #[.int .u8 3, .int .i64 n, .string s]] w fun e w' => e = .returned (.string r) ∧ Below w.heap.size w w' := by
  have N := Aside0.mk (value_Right.calls 1 3 n s (rightB 3 n s) · (right_f 0 3 n s))
  have M := Aside0.mk (value_decimal.calls n r · hf)
  have G := Aside0.mk hg
  rw [hr] at N
  clear hr hf hg
  go_enter Tryd.func16, Tryd.ntmps16
  go_wp2_with fail
  refine (N.out _).mono ?_
  rintro e w1 ⟨rfl, hb1⟩
  obtain ⟨c1, b1⟩ := rightstep _ _ _ hb1
  clear hb1
  replace b1 := Aside0.mk b1
  go_wp2_with fail
  refine (M.out _ (VOK.below G.out b1.out)).mono ?_
  rintro e w2 ⟨rfl, hb2⟩
  replace hb2 := Aside0.mk hb2
  go_wp2_with fail
  go_ret
  exact ⟨rfl, below_step b1.out hb2.out⟩
set_option maxRecDepth 100000 in
set_option maxHeartbeats 1000000 in
theorem p_text (n : Int) (s : ByteArray) (w : World) (hg : VOK w) (hr : rightB 4 n s = true) (r : ByteArray) (hf : strings_ReplaceAll.f s ⟨#[39]⟩ ⟨#[39, 39]⟩ = some r) (hl : r.size ≤ 400) :
    Calls Tryd.prog 16 #[.agg #[.int .u8 4, .int .i64 n, .string s]] w fun e w' => e = .returned (.string (⟨#[39]⟩ ++ r ++ ⟨#[39]⟩)) ∧ Below w.heap.size w w' := by
  have N := Aside0.mk (value_Right.calls 1 4 n s (rightB 4 n s) · (right_f 0 4 n s))
  have M := Aside0.mk (strings_ReplaceAll.calls s ⟨#[39]⟩ ⟨#[39, 39]⟩ r · hf)
  have G := Aside0.mk hg
  rw [hr] at N
  clear hr hf hg
  have e1 : ¬ (9223372036854775807 < 1 + r.size) := by omega
  have e2 : ¬ (9223372036854775807 < 1 + r.size + 1) := by omega
  go_enter Tryd.func16, Tryd.ntmps16
  go_wp2_with fail
  refine (N.out _).mono ?_
  rintro e w1 ⟨rfl, hb1⟩
  obtain ⟨c1, b1⟩ := rightstep _ _ _ hb1
  clear hb1
  replace b1 := Aside0.mk b1
  go_wp2_with fail
  refine (M.out _ (VOK.below G.out b1.out)).mono ?_
  rintro e w2 ⟨rfl, hb2⟩
  replace hb2 := Aside0.mk hb2
  go_wp2_with fail
  go_ret
  exact ⟨rfl, below_step b1.out hb2.out⟩
theorem right_text {k n : Int} {s : ByteArray} (h : rightB k n s = true) (hk : k = 4 ∨ k = 5) : s.size ≤ 200 := by
  unfold rightB at h
  rcases hk with rfl | rfl
  all_goals
    simp at h
    omega
theorem right_kind {k n : Int} {s : ByteArray} (h : rightB k n s = true) : k = 0 ∨ k = 1 ∨ k = 2 ∨ k = 3 ∨ k = 4 ∨ k = 5 := by
  unfold rightB at h
  by_cases h0 : k = 0
  · exact Or.inl h0
  by_cases h1 : k = 1
  · exact Or.inr (Or.inl h1)
  by_cases h2 : k = 2
  · exact Or.inr (Or.inr (Or.inl h2))
  by_cases h3 : k = 3
  · exact Or.inr (Or.inr (Or.inr (Or.inl h3)))
  by_cases h4 : k = 4
  · exact Or.inr (Or.inr (Or.inr (Or.inr (Or.inl h4))))
  by_cases h5 : k = 5
  · exact Or.inr (Or.inr (Or.inr (Or.inr (Or.inr h5))))
  rw [if_neg h0, if_neg h1, if_neg (by omega), if_neg (by omega)] at h
  cases h
def value_Print.f (k n : Int) (s : ByteArray) : Option ByteArray := if I64 n then some (printR k n s) else none
theorem value_Print.calls (k n : Int) (s : ByteArray) (r : ByteArray) (w : World) (h : value_Print.f k n s = some r) (hg : VOK w) :
    Calls Tryd.prog 16 #[.agg #[.int .u8 k, .int .i64 n, .string s]] w fun e w' => e = .returned (.string r) ∧ Below w.heap.size w w' := by
  unfold value_Print.f at h
  by_cases hc : I64 n
  case neg => rw [if_neg hc] at h; cases h
  rw [if_pos hc] at h
  injection h with h
  subst h
  unfold printR
  cases hr : rightB k n s
  · rw [if_pos rfl]; exact p_wrong k n s w hr
  rw [if_neg (by decide)]
  have hc' := hc
  obtain ⟨n0, n1⟩ := hc'
  rcases right_kind hr with rfl | rfl | rfl | rfl | rfl | rfl
  · exact p_null n s w hr
  · simp only [show ¬ ((1 : Int) = 0) by decide, if_false, if_true]
    refine p_bool n s w hr _ ?_
    by_cases h1 : n = 1
    · subst h1; rfl
    · have hb : (n == 1) = false := beq_false_of_ne h1
      rw [if_neg h1, hb]; rfl
  · simp only [show ¬ ((2 : Int) = 0) by decide, show ¬ ((2 : Int) = 1) by decide, if_false, if_true]
    refine p_int n s w hg hr _ ?_
    unfold strconv_FormatInt.f
    rw [if_pos ⟨n0, by omega, rfl⟩]
  · simp only [show ¬ ((3 : Int) = 0) by decide, show ¬ ((3 : Int) = 1) by decide, show ¬ ((3 : Int) = 2) by decide, if_false, if_true]
    refine p_dec n s w hg hr _ ?_
    unfold value_decimal.f
    rw [if_pos hc]
  · simp only [show ¬ ((4 : Int) = 0) by decide, show ¬ ((4 : Int) = 1) by decide, show ¬ ((4 : Int) = 2) by decide, show ¬ ((4 : Int) = 3) by decide, if_false, if_true]
    have hs := right_text hr (Or.inl rfl)
    refine p_text n s w hg hr _ (replace_f s hs) ?_
    have := quoted_len s.data.toList
    have e : s.data.toList.length = s.size := rfl
    show (quoted s.data.toList).toArray.size ≤ 400
    rw [List.size_toArray]; omega
  · simp only [show ¬ ((5 : Int) = 0) by decide, show ¬ ((5 : Int) = 1) by decide, show ¬ ((5 : Int) = 2) by decide, show ¬ ((5 : Int) = 3) by decide, show ¬ ((5 : Int) = 4) by decide, if_false]
    exact bytes_walk n s w hr (right_text hr (Or.inr rfl))
end Go.Proofs.YtbodlnoipkommaaDoor.Wt
namespace Go.Proofs.YtbodlnoipkommaaDoor.Q
open Go.RowKit Go.Proofs.YtbodlnoipkommaaDoorW.PrintWords Go.Proofs.YtbodlnoipkommaaDoorW.PrintLast Go.Proofs.YtbodlnoipkommaaDoorW.PrintMore
attribute [local go_sem] max2_int min2_int max_two min_two max_three min_three max_four min_four
set_option linter.unusedVariables false
set_option linter.unusedSimpArgs false
def value_rank.f (a0 : Int) : Option (Int) := if a0 = 0 then (some 0) else (if a0 = 1 then (some 2) else (some 1))
set_option maxHeartbeats 8000000 in
set_option maxRecDepth 100000 in
theorem value_rank.calls (a0 : Int) (r : Int) (w : World) (h : value_rank.f a0 = some r) :
  Calls Tryd.prog 56 #[.int .u8 a0] w fun e w' => e = .returned (.int .i64 r) ∧ Drawn0 w w' := by
 have H : (if a0 = 0 then (some 0) else (if a0 = 1 then (some 2) else (some 1))) = some r := h
 clear h
 by_cases c2 : a0 = 0
 ·rw [if_pos c2] at H
  have c2b0 : (a0 == 0) = true := beq_iff_eq.mpr c2
  have c2b1 : (a0 != 0) = false := bne_eq_false_iff_eq.mpr c2
  clear c2
  obtain rfl := Option.some.inj H
  go_enter Tryd.func56, Tryd.ntmps56
  go_wp2
  go_ret
  exact ⟨by first | rfl | (simp; done) | (simp [*]; done), by repeat (first | exact Drawn0.refl _ | apply Drawn0.step)⟩
 ·rw [if_neg c2] at H
  have c2b0 : (a0 == 0) = false := beq_eq_false_iff_ne.mpr c2
  have c2b1 : (a0 != 0) = true := bne_iff_ne.mpr c2
  by_cases c3 : a0 = 1
  ·rw [if_pos c3] at H
   have c3b0 : (a0 == 1) = true := beq_iff_eq.mpr c3
   have c3b1 : (a0 != 1) = false := bne_eq_false_iff_eq.mpr c3
   clear c3
   obtain rfl := Option.some.inj H
   go_enter Tryd.func56, Tryd.ntmps56
   go_wp2
   go_ret
   exact ⟨by first | rfl | (simp; done) | (simp [*]; done), by repeat (first | exact Drawn0.refl _ | apply Drawn0.step)⟩
  ·rw [if_neg c3] at H
   have c3b0 : (a0 == 1) = false := beq_eq_false_iff_ne.mpr c3
   have c3b1 : (a0 != 1) = true := bne_iff_ne.mpr c3
   obtain rfl := Option.some.inj H
   go_enter Tryd.func56, Tryd.ntmps56
   go_wp2
   go_ret
   exact ⟨by first | rfl | (simp; done) | (simp [*]; done), by repeat (first | exact Drawn0.refl _ | apply Drawn0.step)⟩
end Go.Proofs.YtbodlnoipkommaaDoor.Q
namespace Go.Proofs.YtbodlnoipkommaaDoor.Wg
open Go.RowKit Go.Proofs.YtbodlnoipkommaaDoor.Q Go.Proofs.YtbodlnoipkommaaDoor.Wf Go.Proofs.YtbodlnoipkommaaDoorW.PrintWords Go.Proofs.YtbodlnoipkommaaDoorW.PrintLast Go.Proofs.YtbodlnoipkommaaDoorW.PrintMore
attribute [local go_sem] max2_int min2_int max_two min_two max_three min_three max_four min_four
def rk (a : Int) : Int := if a = 0 then 0 else if a = 1 then 2 else 1
def tr (r : Int) : Int := if r = 0 then 0 else if r = 1 then 2 else 1
theorem rank_f (a : Int) : value_rank.f a = some (rk a) := by
  unfold value_rank.f rk; by_cases h0 : a = 0
  · rw [if_pos h0, if_pos h0]
  · rw [if_neg h0, if_neg h0]; by_cases h1 : a = 1
    · rw [if_pos h1, if_pos h1]
    · rw [if_neg h1, if_neg h1]
theorem rk_cases (a : Int) : rk a = 0 ∨ rk a = 1 ∨ rk a = 2 := by
  unfold rk; by_cases h0 : a = 0
  · rw [if_pos h0]; exact Or.inl rfl
  · rw [if_neg h0]; by_cases h1 : a = 1
    · rw [if_pos h1]; exact Or.inr (Or.inr rfl)
    · rw [if_neg h1]; exact Or.inr (Or.inl rfl)
def value_And.f (a0 a1 : Int) : Option Int := some (tr (min (rk a0) (rk a1)))
set_option maxHeartbeats 4000000 in
theorem value_And.calls (a0 a1 : Int) (r : Int) (w : World) (h : value_And.f a0 a1 = some r) (hg : VOK w) :
    Calls Tryd.prog 26 #[.int .u8 a0, .int .u8 a1] w fun e w' => e = .returned (.int .u8 r) ∧ Drawn0 w w' := by
  injection h with h
  subst h
  have h0 := hg.t0
  have h1 := hg.t1
  have h2 := hg.t2
  have N := Aside0.mk (value_rank.calls a0 (rk a0) · (rank_f a0))
  have M := Aside0.mk (value_rank.calls a1 (rk a1) · (rank_f a1))
  have hr := rk_cases a0
  have hs := rk_cases a1
  generalize rk a0 = q at N hr
  generalize rk a1 = p at M hs
  rcases hr with rfl | rfl | rfl
  all_goals rcases hs with rfl | rfl | rfl
  all_goals
    go_enter Tryd.func26, Tryd.ntmps26
    go_wp2_with fail
    refine (N.out _).mono ?_
    rintro e w' ⟨rfl, ⟨n, rfl⟩⟩
    go_wp2_with fail
    refine (M.out _).mono ?_
    rintro e w' ⟨rfl, ⟨m, rfl⟩⟩
    go_wp2_with fail
    go_ret
    exact ⟨rfl, ⟨_, rfl⟩⟩
end Go.Proofs.YtbodlnoipkommaaDoor.Wg
namespace Go.Proofs.YtbodlnoipkommaaDoor.Q
open Go.RowKit Go.Proofs.YtbodlnoipkommaaDoorW.PrintWords Go.Proofs.YtbodlnoipkommaaDoorW.PrintLast Go.Proofs.YtbodlnoipkommaaDoorW.PrintMore
attribute [local go_sem] max2_int min2_int max_two min_two max_three min_three max_four min_four
set_option linter.unusedVariables false
set_option linter.unusedSimpArgs false
def cmp_isNaN_int64.f (a0 : Int) : Option (Bool) := some (a0 != a0)
set_option maxHeartbeats 8000000 in
set_option maxRecDepth 100000 in
theorem cmp_isNaN_int64.calls (a0 : Int) (r : Bool) (w : World) (h : cmp_isNaN_int64.f a0 = some r) :
  Calls Tryd.prog 74 #[.int .i64 a0] w fun e w' => e = .returned (.bool r) ∧ Drawn0 w w' := by
 have H : (some (a0 != a0)) = some r := h
 clear h
 obtain rfl := Option.some.inj H
 go_enter Tryd.func74, Tryd.ntmps74
 go_wp2
 go_ret
 exact ⟨by first | rfl | (simp; done) | (simp [*]; done), by repeat (first | exact Drawn0.refl _ | apply Drawn0.step)⟩
end Go.Proofs.YtbodlnoipkommaaDoor.Q
namespace Go.Proofs.YtbodlnoipkommaaDoor.Q
open Go.RowKit Go.Proofs.YtbodlnoipkommaaDoorW.PrintWords Go.Proofs.YtbodlnoipkommaaDoorW.PrintLast Go.Proofs.YtbodlnoipkommaaDoorW.PrintMore
attribute [local go_sem] max2_int min2_int max_two min_two max_three min_three max_four min_four
set_option linter.unusedVariables false
set_option linter.unusedSimpArgs false
def cmp_Compare_int64.f (a0 : Int) (a1 : Int) : Option (Int) := (cmp_isNaN_int64.f a0).bind fun t101 => ((cmp_isNaN_int64.f a1).bind fun t102 => (if t101 = true then (if t102 = true then (some 0) else (some (-1))) else (if t102 = true then (some 1) else (if a0 < a1 then (some (-1)) else (if a0 > a1 then (some 1) else (some 0))))))
set_option maxHeartbeats 8000000 in
set_option maxRecDepth 100000 in
theorem cmp_Compare_int64.calls (a0 : Int) (a1 : Int) (r : Int) (w : World) (h : cmp_Compare_int64.f a0 a1 = some r) :
  Calls Tryd.prog 42 #[.int .i64 a0, .int .i64 a1] w fun e w' => e = .returned (.int .i64 r) ∧ Drawn0 w w' := by
 have H : ((cmp_isNaN_int64.f a0).bind fun t101 => ((cmp_isNaN_int64.f a1).bind fun t102 => (if t101 = true then (if t102 = true then (some 0) else (some (-1))) else (if t102 = true then (some 1) else (if a0 < a1 then (some (-1)) else (if a0 > a1 then (some 1) else (some 0))))))) = some r := h
 clear h
 replace H := Option.bind_eq_some_iff.mp H
 obtain ⟨t101, A30, H⟩ := H
 replace H : ((cmp_isNaN_int64.f a1).bind fun t102 => (if t101 = true then (if t102 = true then (some 0) else (some (-1))) else (if t102 = true then (some 1) else (if a0 < a1 then (some (-1)) else (if a0 > a1 then (some 1) else (some 0)))))) = some r := H
 have A3 := Aside0.mk A30
 clear A30
 replace H := Option.bind_eq_some_iff.mp H
 obtain ⟨t102, A40, H⟩ := H
 replace H : (if t101 = true then (if t102 = true then (some 0) else (some (-1))) else (if t102 = true then (some 1) else (if a0 < a1 then (some (-1)) else (if a0 > a1 then (some 1) else (some 0))))) = some r := H
 have A4 := Aside0.mk A40
 clear A40
 by_cases c5 : t101 = true
 ·subst c5
  have H1 : (if t102 = true then (some 0) else (some (-1))) = some r := by rw [if_pos rfl] at H; exact H
  clear H
  have H := H1
  clear H1
  by_cases c6 : t102 = true
  ·subst c6
   have H1 : (some 0) = some r := by rw [if_pos rfl] at H; exact H
   clear H
   have H := H1
   clear H1
   obtain rfl := Option.some.inj H
   go_enter Tryd.func42, Tryd.ntmps42
   go_wp2_with (first | ((with_reducible refine gate_callee (f := 74) rfl ?_); refine goesL_ (some 8) rfl rfl Tryd.func74 (by kernel_rfl) rfl #[.int .i64 a0] rfl (by (try simp only [List.map_toArray, List.map_cons, List.map_nil]); first | done | rfl | (simp only [List.length_drop, List.length_take]; rfl)) ?_; (with_reducible refine (cmp_isNaN_int64.calls a0 true _ A3.out).mono ?_); rintro e w' ⟨rfl, ⟨nd, rfl⟩⟩; refine ⟨_, rfl, ?_⟩) | ((with_reducible refine gate_callee (f := 74) rfl ?_); refine goesL_ (some 10) rfl rfl Tryd.func74 (by kernel_rfl) rfl #[.int .i64 a1] rfl (by (try simp only [List.map_toArray, List.map_cons, List.map_nil]); first | done | rfl | (simp only [List.length_drop, List.length_take]; rfl)) ?_; (with_reducible refine (cmp_isNaN_int64.calls a1 true _ A4.out).mono ?_); rintro e w' ⟨rfl, ⟨nd, rfl⟩⟩; refine ⟨_, rfl, ?_⟩))
   go_ret
   exact ⟨by first | rfl | (simp; done) | (simp [*]; done), by repeat (first | exact Drawn0.refl _ | apply Drawn0.step)⟩
  ·replace c6 := Bool.eq_false_iff.mpr c6
   subst c6
   have H1 : (some (-1)) = some r := by rw [if_neg (show ¬ (false = true) by decide)] at H; exact H
   clear H
   have H := H1
   clear H1
   obtain rfl := Option.some.inj H
   go_enter Tryd.func42, Tryd.ntmps42
   go_wp2_with (first | ((with_reducible refine gate_callee (f := 74) rfl ?_); refine goesL_ (some 8) rfl rfl Tryd.func74 (by kernel_rfl) rfl #[.int .i64 a0] rfl (by (try simp only [List.map_toArray, List.map_cons, List.map_nil]); first | done | rfl | (simp only [List.length_drop, List.length_take]; rfl)) ?_; (with_reducible refine (cmp_isNaN_int64.calls a0 true _ A3.out).mono ?_); rintro e w' ⟨rfl, ⟨nd, rfl⟩⟩; refine ⟨_, rfl, ?_⟩) | ((with_reducible refine gate_callee (f := 74) rfl ?_); refine goesL_ (some 10) rfl rfl Tryd.func74 (by kernel_rfl) rfl #[.int .i64 a1] rfl (by (try simp only [List.map_toArray, List.map_cons, List.map_nil]); first | done | rfl | (simp only [List.length_drop, List.length_take]; rfl)) ?_; (with_reducible refine (cmp_isNaN_int64.calls a1 false _ A4.out).mono ?_); rintro e w' ⟨rfl, ⟨nd, rfl⟩⟩; refine ⟨_, rfl, ?_⟩))
   go_ret
   exact ⟨by first | rfl | (simp; done) | (simp [*]; done), by repeat (first | exact Drawn0.refl _ | apply Drawn0.step)⟩
 ·replace c5 := Bool.eq_false_iff.mpr c5
  subst c5
  have H1 : (if t102 = true then (some 1) else (if a0 < a1 then (some (-1)) else (if a0 > a1 then (some 1) else (some 0)))) = some r := by rw [if_neg (show ¬ (false = true) by decide)] at H; exact H
  clear H
  have H := H1
  clear H1
  by_cases c7 : t102 = true
  ·subst c7
   have H1 : (some 1) = some r := by rw [if_pos rfl] at H; exact H
   clear H
   have H := H1
   clear H1
   obtain rfl := Option.some.inj H
   go_enter Tryd.func42, Tryd.ntmps42
   go_wp2_with (first | ((with_reducible refine gate_callee (f := 74) rfl ?_); refine goesL_ (some 8) rfl rfl Tryd.func74 (by kernel_rfl) rfl #[.int .i64 a0] rfl (by (try simp only [List.map_toArray, List.map_cons, List.map_nil]); first | done | rfl | (simp only [List.length_drop, List.length_take]; rfl)) ?_; (with_reducible refine (cmp_isNaN_int64.calls a0 false _ A3.out).mono ?_); rintro e w' ⟨rfl, ⟨nd, rfl⟩⟩; refine ⟨_, rfl, ?_⟩) | ((with_reducible refine gate_callee (f := 74) rfl ?_); refine goesL_ (some 10) rfl rfl Tryd.func74 (by kernel_rfl) rfl #[.int .i64 a1] rfl (by (try simp only [List.map_toArray, List.map_cons, List.map_nil]); first | done | rfl | (simp only [List.length_drop, List.length_take]; rfl)) ?_; (with_reducible refine (cmp_isNaN_int64.calls a1 true _ A4.out).mono ?_); rintro e w' ⟨rfl, ⟨nd, rfl⟩⟩; refine ⟨_, rfl, ?_⟩))
   go_ret
   exact ⟨by first | rfl | (simp; done) | (simp [*]; done), by repeat (first | exact Drawn0.refl _ | apply Drawn0.step)⟩
  ·replace c7 := Bool.eq_false_iff.mpr c7
   subst c7
   have H1 : (if a0 < a1 then (some (-1)) else (if a0 > a1 then (some 1) else (some 0))) = some r := by rw [if_neg (show ¬ (false = true) by decide)] at H; exact H
   clear H
   have H := H1
   clear H1
   by_cases c8 : a0 < a1
   ·rw [if_pos c8] at H
    have c8b0 : decide (a0 < a1) = true := decide_eq_true c8
    clear c8
    obtain rfl := Option.some.inj H
    go_enter Tryd.func42, Tryd.ntmps42
    go_wp2_with (first | ((with_reducible refine gate_callee (f := 74) rfl ?_); refine goesL_ (some 8) rfl rfl Tryd.func74 (by kernel_rfl) rfl #[.int .i64 a0] rfl (by (try simp only [List.map_toArray, List.map_cons, List.map_nil]); first | done | rfl | (simp only [List.length_drop, List.length_take]; rfl)) ?_; (with_reducible refine (cmp_isNaN_int64.calls a0 false _ A3.out).mono ?_); rintro e w' ⟨rfl, ⟨nd, rfl⟩⟩; refine ⟨_, rfl, ?_⟩) | ((with_reducible refine gate_callee (f := 74) rfl ?_); refine goesL_ (some 10) rfl rfl Tryd.func74 (by kernel_rfl) rfl #[.int .i64 a1] rfl (by (try simp only [List.map_toArray, List.map_cons, List.map_nil]); first | done | rfl | (simp only [List.length_drop, List.length_take]; rfl)) ?_; (with_reducible refine (cmp_isNaN_int64.calls a1 false _ A4.out).mono ?_); rintro e w' ⟨rfl, ⟨nd, rfl⟩⟩; refine ⟨_, rfl, ?_⟩))
    go_ret
    exact ⟨by first | rfl | (simp; done) | (simp [*]; done), by repeat (first | exact Drawn0.refl _ | apply Drawn0.step)⟩
   ·rw [if_neg c8] at H
    have c8b0 : decide (a0 < a1) = false := decide_eq_false c8
    clear c8
    by_cases c9 : a0 > a1
    ·rw [if_pos c9] at H
     have c9b0 : decide (a1 < a0) = true := decide_eq_true c9
     clear c9
     obtain rfl := Option.some.inj H
     go_enter Tryd.func42, Tryd.ntmps42
     go_wp2_with (first | ((with_reducible refine gate_callee (f := 74) rfl ?_); refine goesL_ (some 8) rfl rfl Tryd.func74 (by kernel_rfl) rfl #[.int .i64 a0] rfl (by (try simp only [List.map_toArray, List.map_cons, List.map_nil]); first | done | rfl | (simp only [List.length_drop, List.length_take]; rfl)) ?_; (with_reducible refine (cmp_isNaN_int64.calls a0 false _ A3.out).mono ?_); rintro e w' ⟨rfl, ⟨nd, rfl⟩⟩; refine ⟨_, rfl, ?_⟩) | ((with_reducible refine gate_callee (f := 74) rfl ?_); refine goesL_ (some 10) rfl rfl Tryd.func74 (by kernel_rfl) rfl #[.int .i64 a1] rfl (by (try simp only [List.map_toArray, List.map_cons, List.map_nil]); first | done | rfl | (simp only [List.length_drop, List.length_take]; rfl)) ?_; (with_reducible refine (cmp_isNaN_int64.calls a1 false _ A4.out).mono ?_); rintro e w' ⟨rfl, ⟨nd, rfl⟩⟩; refine ⟨_, rfl, ?_⟩))
     go_ret
     exact ⟨by first | rfl | (simp; done) | (simp [*]; done), by repeat (first | exact Drawn0.refl _ | apply Drawn0.step)⟩
    ·rw [if_neg c9] at H
     have c9b0 : decide (a1 < a0) = false := decide_eq_false c9
     clear c9
     obtain rfl := Option.some.inj H
     go_enter Tryd.func42, Tryd.ntmps42
     go_wp2_with (first | ((with_reducible refine gate_callee (f := 74) rfl ?_); refine goesL_ (some 8) rfl rfl Tryd.func74 (by kernel_rfl) rfl #[.int .i64 a0] rfl (by (try simp only [List.map_toArray, List.map_cons, List.map_nil]); first | done | rfl | (simp only [List.length_drop, List.length_take]; rfl)) ?_; (with_reducible refine (cmp_isNaN_int64.calls a0 false _ A3.out).mono ?_); rintro e w' ⟨rfl, ⟨nd, rfl⟩⟩; refine ⟨_, rfl, ?_⟩) | ((with_reducible refine gate_callee (f := 74) rfl ?_); refine goesL_ (some 10) rfl rfl Tryd.func74 (by kernel_rfl) rfl #[.int .i64 a1] rfl (by (try simp only [List.map_toArray, List.map_cons, List.map_nil]); first | done | rfl | (simp only [List.length_drop, List.length_take]; rfl)) ?_; (with_reducible refine (cmp_isNaN_int64.calls a1 false _ A4.out).mono ?_); rintro e w' ⟨rfl, ⟨nd, rfl⟩⟩; refine ⟨_, rfl, ?_⟩))
     go_ret
     exact ⟨by first | rfl | (simp; done) | (simp [*]; done), by repeat (first | exact Drawn0.refl _ | apply Drawn0.step)⟩
end Go.Proofs.YtbodlnoipkommaaDoor.Q
namespace Go.Proofs.YtbodlnoipkommaaDoor.Q
open Go.RowKit Go.Proofs.YtbodlnoipkommaaDoorW.PrintWords Go.Proofs.YtbodlnoipkommaaDoorW.PrintLast Go.Proofs.YtbodlnoipkommaaDoorW.PrintMore
attribute [local go_sem] max2_int min2_int max_two min_two max_three min_three max_four min_four
set_option linter.unusedVariables false
set_option linter.unusedSimpArgs false
def api_Kind_77.f (a0 : Int) : Option (Bool) := some (a0 != a0)
set_option maxHeartbeats 8000000 in
set_option maxRecDepth 100000 in
theorem api_Kind_77.calls (a0 : Int) (r : Bool) (w : World) (h : api_Kind_77.f a0 = some r) :
  Calls Tryd.prog 77 #[.int .u8 a0] w fun e w' => e = .returned (.bool r) ∧ Drawn0 w w' := by
 have H : (some (a0 != a0)) = some r := h
 clear h
 obtain rfl := Option.some.inj H
 go_enter Tryd.func77, Tryd.ntmps77
 go_wp2
 go_ret
 exact ⟨by first | rfl | (simp; done) | (simp [*]; done), by repeat (first | exact Drawn0.refl _ | apply Drawn0.step)⟩
end Go.Proofs.YtbodlnoipkommaaDoor.Q
namespace Go.Proofs.YtbodlnoipkommaaDoor.Q
open Go.RowKit Go.Proofs.YtbodlnoipkommaaDoorW.PrintWords Go.Proofs.YtbodlnoipkommaaDoorW.PrintLast Go.Proofs.YtbodlnoipkommaaDoorW.PrintMore
attribute [local go_sem] max2_int min2_int max_two min_two max_three min_three max_four min_four
set_option linter.unusedVariables false
set_option linter.unusedSimpArgs false
def api_Kind_47.f (a0 : Int) (a1 : Int) : Option (Int) := (api_Kind_77.f a0).bind fun t103 => ((api_Kind_77.f a1).bind fun t104 => (if t103 = true then (if t104 = true then (some 0) else (some (-1))) else (if t104 = true then (some 1) else (if a0 < a1 then (some (-1)) else (if a0 > a1 then (some 1) else (some 0))))))
set_option maxHeartbeats 8000000 in
set_option maxRecDepth 100000 in
theorem api_Kind_47.calls (a0 : Int) (a1 : Int) (r : Int) (w : World) (h : api_Kind_47.f a0 a1 = some r) :
  Calls Tryd.prog 47 #[.int .u8 a0, .int .u8 a1] w fun e w' => e = .returned (.int .i64 r) ∧ Drawn0 w w' := by
 have H : ((api_Kind_77.f a0).bind fun t103 => ((api_Kind_77.f a1).bind fun t104 => (if t103 = true then (if t104 = true then (some 0) else (some (-1))) else (if t104 = true then (some 1) else (if a0 < a1 then (some (-1)) else (if a0 > a1 then (some 1) else (some 0))))))) = some r := h
 clear h
 replace H := Option.bind_eq_some_iff.mp H
 obtain ⟨t103, A30, H⟩ := H
 replace H : ((api_Kind_77.f a1).bind fun t104 => (if t103 = true then (if t104 = true then (some 0) else (some (-1))) else (if t104 = true then (some 1) else (if a0 < a1 then (some (-1)) else (if a0 > a1 then (some 1) else (some 0)))))) = some r := H
 have A3 := Aside0.mk A30
 clear A30
 replace H := Option.bind_eq_some_iff.mp H
 obtain ⟨t104, A40, H⟩ := H
 replace H : (if t103 = true then (if t104 = true then (some 0) else (some (-1))) else (if t104 = true then (some 1) else (if a0 < a1 then (some (-1)) else (if a0 > a1 then (some 1) else (some 0))))) = some r := H
 have A4 := Aside0.mk A40
 clear A40
 by_cases c5 : t103 = true
 ·subst c5
  have H1 : (if t104 = true then (some 0) else (some (-1))) = some r := by rw [if_pos rfl] at H; exact H
  clear H
  have H := H1
  clear H1
  by_cases c6 : t104 = true
  ·subst c6
   have H1 : (some 0) = some r := by rw [if_pos rfl] at H; exact H
   clear H
   have H := H1
   clear H1
   obtain rfl := Option.some.inj H
   go_enter Tryd.func47, Tryd.ntmps47
   go_wp2_with (first | ((with_reducible refine gate_callee (f := 77) rfl ?_); refine goesL_ (some 8) rfl rfl Tryd.func77 (by kernel_rfl) rfl #[.int .u8 a0] rfl (by (try simp only [List.map_toArray, List.map_cons, List.map_nil]); first | done | rfl | (simp only [List.length_drop, List.length_take]; rfl)) ?_; (with_reducible refine (api_Kind_77.calls a0 true _ A3.out).mono ?_); rintro e w' ⟨rfl, ⟨nd, rfl⟩⟩; refine ⟨_, rfl, ?_⟩) | ((with_reducible refine gate_callee (f := 77) rfl ?_); refine goesL_ (some 10) rfl rfl Tryd.func77 (by kernel_rfl) rfl #[.int .u8 a1] rfl (by (try simp only [List.map_toArray, List.map_cons, List.map_nil]); first | done | rfl | (simp only [List.length_drop, List.length_take]; rfl)) ?_; (with_reducible refine (api_Kind_77.calls a1 true _ A4.out).mono ?_); rintro e w' ⟨rfl, ⟨nd, rfl⟩⟩; refine ⟨_, rfl, ?_⟩))
   go_ret
   exact ⟨by first | rfl | (simp; done) | (simp [*]; done), by repeat (first | exact Drawn0.refl _ | apply Drawn0.step)⟩
  ·replace c6 := Bool.eq_false_iff.mpr c6
   subst c6
   have H1 : (some (-1)) = some r := by rw [if_neg (show ¬ (false = true) by decide)] at H; exact H
   clear H
   have H := H1
   clear H1
   obtain rfl := Option.some.inj H
   go_enter Tryd.func47, Tryd.ntmps47
   go_wp2_with (first | ((with_reducible refine gate_callee (f := 77) rfl ?_); refine goesL_ (some 8) rfl rfl Tryd.func77 (by kernel_rfl) rfl #[.int .u8 a0] rfl (by (try simp only [List.map_toArray, List.map_cons, List.map_nil]); first | done | rfl | (simp only [List.length_drop, List.length_take]; rfl)) ?_; (with_reducible refine (api_Kind_77.calls a0 true _ A3.out).mono ?_); rintro e w' ⟨rfl, ⟨nd, rfl⟩⟩; refine ⟨_, rfl, ?_⟩) | ((with_reducible refine gate_callee (f := 77) rfl ?_); refine goesL_ (some 10) rfl rfl Tryd.func77 (by kernel_rfl) rfl #[.int .u8 a1] rfl (by (try simp only [List.map_toArray, List.map_cons, List.map_nil]); first | done | rfl | (simp only [List.length_drop, List.length_take]; rfl)) ?_; (with_reducible refine (api_Kind_77.calls a1 false _ A4.out).mono ?_); rintro e w' ⟨rfl, ⟨nd, rfl⟩⟩; refine ⟨_, rfl, ?_⟩))
   go_ret
   exact ⟨by first | rfl | (simp; done) | (simp [*]; done), by repeat (first | exact Drawn0.refl _ | apply Drawn0.step)⟩
 ·replace c5 := Bool.eq_false_iff.mpr c5
  subst c5
  have H1 : (if t104 = true then (some 1) else (if a0 < a1 then (some (-1)) else (if a0 > a1 then (some 1) else (some 0)))) = some r := by rw [if_neg (show ¬ (false = true) by decide)] at H; exact H
  clear H
  have H := H1
  clear H1
  by_cases c7 : t104 = true
  ·subst c7
   have H1 : (some 1) = some r := by rw [if_pos rfl] at H; exact H
   clear H
   have H := H1
   clear H1
   obtain rfl := Option.some.inj H
   go_enter Tryd.func47, Tryd.ntmps47
   go_wp2_with (first | ((with_reducible refine gate_callee (f := 77) rfl ?_); refine goesL_ (some 8) rfl rfl Tryd.func77 (by kernel_rfl) rfl #[.int .u8 a0] rfl (by (try simp only [List.map_toArray, List.map_cons, List.map_nil]); first | done | rfl | (simp only [List.length_drop, List.length_take]; rfl)) ?_; (with_reducible refine (api_Kind_77.calls a0 false _ A3.out).mono ?_); rintro e w' ⟨rfl, ⟨nd, rfl⟩⟩; refine ⟨_, rfl, ?_⟩) | ((with_reducible refine gate_callee (f := 77) rfl ?_); refine goesL_ (some 10) rfl rfl Tryd.func77 (by kernel_rfl) rfl #[.int .u8 a1] rfl (by (try simp only [List.map_toArray, List.map_cons, List.map_nil]); first | done | rfl | (simp only [List.length_drop, List.length_take]; rfl)) ?_; (with_reducible refine (api_Kind_77.calls a1 true _ A4.out).mono ?_); rintro e w' ⟨rfl, ⟨nd, rfl⟩⟩; refine ⟨_, rfl, ?_⟩))
   go_ret
   exact ⟨by first | rfl | (simp; done) | (simp [*]; done), by repeat (first | exact Drawn0.refl _ | apply Drawn0.step)⟩
  ·replace c7 := Bool.eq_false_iff.mpr c7
   subst c7
   have H1 : (if a0 < a1 then (some (-1)) else (if a0 > a1 then (some 1) else (some 0))) = some r := by rw [if_neg (show ¬ (false = true) by decide)] at H; exact H
   clear H
   have H := H1
   clear H1
   by_cases c8 : a0 < a1
   ·rw [if_pos c8] at H
    have c8b0 : decide (a0 < a1) = true := decide_eq_true c8
    clear c8
    obtain rfl := Option.some.inj H
    go_enter Tryd.func47, Tryd.ntmps47
    go_wp2_with (first | ((with_reducible refine gate_callee (f := 77) rfl ?_); refine goesL_ (some 8) rfl rfl Tryd.func77 (by kernel_rfl) rfl #[.int .u8 a0] rfl (by (try simp only [List.map_toArray, List.map_cons, List.map_nil]); first | done | rfl | (simp only [List.length_drop, List.length_take]; rfl)) ?_; (with_reducible refine (api_Kind_77.calls a0 false _ A3.out).mono ?_); rintro e w' ⟨rfl, ⟨nd, rfl⟩⟩; refine ⟨_, rfl, ?_⟩) | ((with_reducible refine gate_callee (f := 77) rfl ?_); refine goesL_ (some 10) rfl rfl Tryd.func77 (by kernel_rfl) rfl #[.int .u8 a1] rfl (by (try simp only [List.map_toArray, List.map_cons, List.map_nil]); first | done | rfl | (simp only [List.length_drop, List.length_take]; rfl)) ?_; (with_reducible refine (api_Kind_77.calls a1 false _ A4.out).mono ?_); rintro e w' ⟨rfl, ⟨nd, rfl⟩⟩; refine ⟨_, rfl, ?_⟩))
    go_ret
    exact ⟨by first | rfl | (simp; done) | (simp [*]; done), by repeat (first | exact Drawn0.refl _ | apply Drawn0.step)⟩
   ·rw [if_neg c8] at H
    have c8b0 : decide (a0 < a1) = false := decide_eq_false c8
    clear c8
    by_cases c9 : a0 > a1
    ·rw [if_pos c9] at H
     have c9b0 : decide (a1 < a0) = true := decide_eq_true c9
     clear c9
     obtain rfl := Option.some.inj H
     go_enter Tryd.func47, Tryd.ntmps47
     go_wp2_with (first | ((with_reducible refine gate_callee (f := 77) rfl ?_); refine goesL_ (some 8) rfl rfl Tryd.func77 (by kernel_rfl) rfl #[.int .u8 a0] rfl (by (try simp only [List.map_toArray, List.map_cons, List.map_nil]); first | done | rfl | (simp only [List.length_drop, List.length_take]; rfl)) ?_; (with_reducible refine (api_Kind_77.calls a0 false _ A3.out).mono ?_); rintro e w' ⟨rfl, ⟨nd, rfl⟩⟩; refine ⟨_, rfl, ?_⟩) | ((with_reducible refine gate_callee (f := 77) rfl ?_); refine goesL_ (some 10) rfl rfl Tryd.func77 (by kernel_rfl) rfl #[.int .u8 a1] rfl (by (try simp only [List.map_toArray, List.map_cons, List.map_nil]); first | done | rfl | (simp only [List.length_drop, List.length_take]; rfl)) ?_; (with_reducible refine (api_Kind_77.calls a1 false _ A4.out).mono ?_); rintro e w' ⟨rfl, ⟨nd, rfl⟩⟩; refine ⟨_, rfl, ?_⟩))
     go_ret
     exact ⟨by first | rfl | (simp; done) | (simp [*]; done), by repeat (first | exact Drawn0.refl _ | apply Drawn0.step)⟩
    ·rw [if_neg c9] at H
     have c9b0 : decide (a1 < a0) = false := decide_eq_false c9
     clear c9
     obtain rfl := Option.some.inj H
     go_enter Tryd.func47, Tryd.ntmps47
     go_wp2_with (first | ((with_reducible refine gate_callee (f := 77) rfl ?_); refine goesL_ (some 8) rfl rfl Tryd.func77 (by kernel_rfl) rfl #[.int .u8 a0] rfl (by (try simp only [List.map_toArray, List.map_cons, List.map_nil]); first | done | rfl | (simp only [List.length_drop, List.length_take]; rfl)) ?_; (with_reducible refine (api_Kind_77.calls a0 false _ A3.out).mono ?_); rintro e w' ⟨rfl, ⟨nd, rfl⟩⟩; refine ⟨_, rfl, ?_⟩) | ((with_reducible refine gate_callee (f := 77) rfl ?_); refine goesL_ (some 10) rfl rfl Tryd.func77 (by kernel_rfl) rfl #[.int .u8 a1] rfl (by (try simp only [List.map_toArray, List.map_cons, List.map_nil]); first | done | rfl | (simp only [List.length_drop, List.length_take]; rfl)) ?_; (with_reducible refine (api_Kind_77.calls a1 false _ A4.out).mono ?_); rintro e w' ⟨rfl, ⟨nd, rfl⟩⟩; refine ⟨_, rfl, ?_⟩))
     go_ret
     exact ⟨by first | rfl | (simp; done) | (simp [*]; done), by repeat (first | exact Drawn0.refl _ | apply Drawn0.step)⟩
end Go.Proofs.YtbodlnoipkommaaDoor.Q
namespace Go.Proofs.YtbodlnoipkommaaDoor.Q
open Go.Proofs.YtbodlnoipkommaaDoor.Wf
open Go.RowKit Go.Proofs.YtbodlnoipkommaaDoorW.PrintWords Go.Proofs.YtbodlnoipkommaaDoorW.PrintLast Go.Proofs.YtbodlnoipkommaaDoorW.PrintMore
attribute [local go_sem] max2_int min2_int max_two min_two max_three min_three max_four min_four
set_option linter.unusedVariables false
set_option linter.unusedSimpArgs false
def value_Order.f (a0_0 : Int) (a0_1 : Int) (a0_2 : ByteArray) (a1_0 : Int) (a1_1 : Int) (a1_2 : ByteArray) : Option (Int) := (api_Kind_47.f a0_0 a1_0).bind fun t107 => (if t107 = 0 then ((cmp_Compare_int64.f a0_1 a1_1).bind fun t108 => (if t108 = 0 then ((strings_Compare.f a0_2 a1_2).bind fun t109 => (some t109)) else (some t108))) else (some t107))
set_option maxHeartbeats 8000000 in
set_option maxRecDepth 100000 in
theorem value_Order.calls (a0_0 : Int) (a0_1 : Int) (a0_2 : ByteArray) (a1_0 : Int) (a1_1 : Int) (a1_2 : ByteArray) (r : Int) (w : World) (h : value_Order.f a0_0 a0_1 a0_2 a1_0 a1_1 a1_2 = some r) :
  Calls Tryd.prog 11 #[.agg #[.int .u8 a0_0, .int .i64 a0_1, .string a0_2], .agg #[.int .u8 a1_0, .int .i64 a1_1, .string a1_2]] w fun e w' => e = .returned (.int .i64 r) ∧ Below w.heap.size w w' := by
 have hu25 := Tryd.underlying25
 have HB := Aside0.mk (Below.refl w.heap.size w)
 have H : ((api_Kind_47.f a0_0 a1_0).bind fun t107 => (if t107 = 0 then ((cmp_Compare_int64.f a0_1 a1_1).bind fun t108 => (if t108 = 0 then ((strings_Compare.f a0_2 a1_2).bind fun t109 => (some t109)) else (some t108))) else (some t107))) = some r := h
 clear h
 replace H := Option.bind_eq_some_iff.mp H
 obtain ⟨t107, A30, H⟩ := H
 replace H : (if t107 = 0 then ((cmp_Compare_int64.f a0_1 a1_1).bind fun t108 => (if t108 = 0 then ((strings_Compare.f a0_2 a1_2).bind fun t109 => (some t109)) else (some t108))) else (some t107)) = some r := H
 have A3 := Aside0.mk A30
 clear A30
 by_cases c4 : t107 = 0
 ·rw [if_pos c4] at H
  have c4b0 : (t107 == 0) = true := beq_iff_eq.mpr c4
  have c4b1 : (t107 != 0) = false := bne_eq_false_iff_eq.mpr c4
  clear c4
  replace H := Option.bind_eq_some_iff.mp H
  obtain ⟨t108, A50, H⟩ := H
  replace H : (if t108 = 0 then ((strings_Compare.f a0_2 a1_2).bind fun t109 => (some t109)) else (some t108)) = some r := H
  have A5 := Aside0.mk A50
  clear A50
  by_cases c6 : t108 = 0
  ·rw [if_pos c6] at H
   have c6b0 : (t108 == 0) = true := beq_iff_eq.mpr c6
   have c6b1 : (t108 != 0) = false := bne_eq_false_iff_eq.mpr c6
   clear c6
   replace H := Option.bind_eq_some_iff.mp H
   obtain ⟨t109, A70, H⟩ := H
   replace H : (some t109) = some r := H
   have A7 := Aside0.mk A70
   clear A70
   obtain rfl := Option.some.inj H
   go_enter Tryd.func11, Tryd.ntmps11
   go_wp2_with (first | ((with_reducible refine gate_dst (N := 2) rfl ?_); refine box_event ?hg (N := 2) ?hd (cs := #[.int .u8 a0_0, .int .i64 a0_1, .string a0_2]) (t := 25) ?hr ?_; (case hd => rfl); (case hg => rfl); (case hr => first | (go_simp; done) | (go_simp; rfl)); intro gb105 hg w8 hbox hb; have n0_ := Aside0.mk (below_step (bw HB.out) hb); have n1_ := Aside0.mk (hbox); have n2_ := Aside0.mk ((by rw [hg]; exact (below_size (bw HB.out)) : w.heap.size ≤ gb105)); have n3_ := Aside0.mk ((by rw [hg]; exact (below_size (bw HB.out)) : w.heap.size ≤ gb105)); clear HB; have HB := n0_; have BK105 := n1_; have GW105 := n2_; have GE105 := n3_; clear n0_ n1_ n2_ n3_; clear hb hbox hg) | ((with_reducible refine gate_dst (N := 3) rfl ?_); refine box_event ?hg (N := 3) ?hd (cs := #[.int .u8 a1_0, .int .i64 a1_1, .string a1_2]) (t := 25) ?hr ?_; (case hd => rfl); (case hg => rfl); (case hr => first | (go_simp; done) | (go_simp; rfl)); intro gb106 hg w9 hbox hb; have n0_ := Aside0.mk (blk_below (bk BK105.out) hb); have n1_ := Aside0.mk (below_step (by repeat (first | (with_reducible first | exact HB.out | apply below_alloc | apply pw_below_drewN | apply below_drew1 | refine below_set ?_ GE105.out) | exact HB.out)) hb); have n2_ := Aside0.mk (hbox); have n3_ := Aside0.mk ((by rw [hg]; exact (below_size (by repeat (first | (with_reducible first | exact HB.out | apply below_alloc | apply pw_below_drewN | apply below_drew1 | refine below_set ?_ GE105.out) | exact HB.out))) : w.heap.size ≤ gb106)); have n4_ := Aside0.mk ((by rw [hg]; exact (below_size (by repeat (first | (with_reducible first | exact HB.out | apply below_alloc | apply pw_below_drewN | apply below_drew1 | refine below_set ?_ GE105.out) | exact HB.out))) : w.heap.size ≤ gb106)); have n5_ := Aside0.mk ((by rw [hg]; exact Nat.ne_of_lt (blk_lt (g := gb105) (o := .cells #[.int .u8 a0_0, .int .i64 a0_1, .string a0_2] 25 (0, 0)) (bk BK105.out)) : gb105 ≠ gb106)); have n6_ := Aside0.mk ((by rw [hg]; exact Nat.ne_of_gt (blk_lt (g := gb105) (o := .cells #[.int .u8 a0_0, .int .i64 a0_1, .string a0_2] 25 (0, 0)) (bk BK105.out)) : gb106 ≠ gb105)); clear BK105; clear HB; have BK105 := n0_; have HB := n1_; have BK106 := n2_; have GW106 := n3_; have GE106 := n4_; have NB105_106 := n5_; have NB106_105 := n6_; clear n0_ n1_ n2_ n3_ n4_ n5_ n6_; clear hb hbox hg; have hnb10 := NB105_106.out; have hnc10 := NB106_105.out; have hcz11_0 : w9.cell? ⟨gb105, 0, none⟩ = some (.int .u8 a0_0) := (blk_cell BK105.out 0).trans rfl; have hcz11_1 : w9.cell? ⟨gb105, 1, none⟩ = some (.int .i64 a0_1) := (blk_cell BK105.out 1).trans rfl; have hcz11_2 : w9.cell? ⟨gb105, 2, none⟩ = some (.string a0_2) := (blk_cell BK105.out 2).trans rfl; have hfz11_0 := blk_frozen BK105.out 0; have hfz11_1 := blk_frozen BK105.out 1; have hfz11_2 := blk_frozen BK105.out 2; have hcz12_0 : w9.cell? ⟨gb106, 0, none⟩ = some (.int .u8 a1_0) := (blk_cell BK106.out 0).trans rfl; have hcz12_1 : w9.cell? ⟨gb106, 1, none⟩ = some (.int .i64 a1_1) := (blk_cell BK106.out 1).trans rfl; have hcz12_2 : w9.cell? ⟨gb106, 2, none⟩ = some (.string a1_2) := (blk_cell BK106.out 2).trans rfl; have hfz12_0 := blk_frozen BK106.out 0; have hfz12_1 := blk_frozen BK106.out 1; have hfz12_2 := blk_frozen BK106.out 2) | ((with_reducible refine gate_callee (f := 47) rfl ?_); refine goesL_ (some 11) rfl rfl Tryd.func47 (by kernel_rfl) rfl #[.int .u8 a0_0, .int .u8 a1_0] rfl (by (try simp only [List.map_toArray, List.map_cons, List.map_nil]); first | done | rfl | (simp only [List.length_drop, List.length_take]; rfl)) ?_; (with_reducible refine (api_Kind_47.calls a0_0 a1_0 t107 _ A3.out).mono ?_); rintro e w' ⟨rfl, ⟨nd, rfl⟩⟩; refine ⟨_, rfl, ?_⟩) | ((with_reducible refine gate_callee (f := 42) rfl ?_); refine goesL_ (some 19) rfl rfl Tryd.func42 (by kernel_rfl) rfl #[.int .i64 a0_1, .int .i64 a1_1] rfl (by (try simp only [List.map_toArray, List.map_cons, List.map_nil]); first | done | rfl | (simp only [List.length_drop, List.length_take]; rfl)) ?_; (with_reducible refine (cmp_Compare_int64.calls a0_1 a1_1 t108 _ A5.out).mono ?_); rintro e w' ⟨rfl, ⟨nd, rfl⟩⟩; refine ⟨_, rfl, ?_⟩) | ((with_reducible refine gate_callee (f := 48) rfl ?_); refine goesL_ (some 27) rfl rfl Tryd.func48 (by kernel_rfl) rfl #[.string a0_2, .string a1_2] rfl (by (try simp only [List.map_toArray, List.map_cons, List.map_nil]); first | done | rfl | (simp only [List.length_drop, List.length_take]; rfl)) ?_; (with_reducible refine (strings_Compare.calls a0_2 a1_2 t109 _ A7.out).mono ?_); rintro e w' ⟨rfl, ⟨nd, rfl⟩⟩; refine ⟨_, rfl, ?_⟩))
   go_ret
   exact ⟨by first | rfl | (simp [errW_none, errW_some] <;> rfl) | (simp [*, errW_none, errW_some] <;> rfl), by repeat (first | (with_reducible first | exact HB.out | apply below_alloc | apply pw_below_drewN | apply below_drew1 | refine below_set ?_ (Aside0.out (by assumption))) | exact HB.out)⟩
  ·rw [if_neg c6] at H
   have c6b0 : (t108 == 0) = false := beq_eq_false_iff_ne.mpr c6
   have c6b1 : (t108 != 0) = true := bne_iff_ne.mpr c6
   obtain rfl := Option.some.inj H
   go_enter Tryd.func11, Tryd.ntmps11
   go_wp2_with (first | ((with_reducible refine gate_dst (N := 2) rfl ?_); refine box_event ?hg (N := 2) ?hd (cs := #[.int .u8 a0_0, .int .i64 a0_1, .string a0_2]) (t := 25) ?hr ?_; (case hd => rfl); (case hg => rfl); (case hr => first | (go_simp; done) | (go_simp; rfl)); intro gb105 hg w13 hbox hb; have n0_ := Aside0.mk (below_step (bw HB.out) hb); have n1_ := Aside0.mk (hbox); have n2_ := Aside0.mk ((by rw [hg]; exact (below_size (bw HB.out)) : w.heap.size ≤ gb105)); have n3_ := Aside0.mk ((by rw [hg]; exact (below_size (bw HB.out)) : w.heap.size ≤ gb105)); clear HB; have HB := n0_; have BK105 := n1_; have GW105 := n2_; have GE105 := n3_; clear n0_ n1_ n2_ n3_; clear hb hbox hg) | ((with_reducible refine gate_dst (N := 3) rfl ?_); refine box_event ?hg (N := 3) ?hd (cs := #[.int .u8 a1_0, .int .i64 a1_1, .string a1_2]) (t := 25) ?hr ?_; (case hd => rfl); (case hg => rfl); (case hr => first | (go_simp; done) | (go_simp; rfl)); intro gb106 hg w14 hbox hb; have n0_ := Aside0.mk (blk_below (bk BK105.out) hb); have n1_ := Aside0.mk (below_step (by repeat (first | (with_reducible first | exact HB.out | apply below_alloc | apply pw_below_drewN | apply below_drew1 | refine below_set ?_ GE105.out) | exact HB.out)) hb); have n2_ := Aside0.mk (hbox); have n3_ := Aside0.mk ((by rw [hg]; exact (below_size (by repeat (first | (with_reducible first | exact HB.out | apply below_alloc | apply pw_below_drewN | apply below_drew1 | refine below_set ?_ GE105.out) | exact HB.out))) : w.heap.size ≤ gb106)); have n4_ := Aside0.mk ((by rw [hg]; exact (below_size (by repeat (first | (with_reducible first | exact HB.out | apply below_alloc | apply pw_below_drewN | apply below_drew1 | refine below_set ?_ GE105.out) | exact HB.out))) : w.heap.size ≤ gb106)); have n5_ := Aside0.mk ((by rw [hg]; exact Nat.ne_of_lt (blk_lt (g := gb105) (o := .cells #[.int .u8 a0_0, .int .i64 a0_1, .string a0_2] 25 (0, 0)) (bk BK105.out)) : gb105 ≠ gb106)); have n6_ := Aside0.mk ((by rw [hg]; exact Nat.ne_of_gt (blk_lt (g := gb105) (o := .cells #[.int .u8 a0_0, .int .i64 a0_1, .string a0_2] 25 (0, 0)) (bk BK105.out)) : gb106 ≠ gb105)); clear BK105; clear HB; have BK105 := n0_; have HB := n1_; have BK106 := n2_; have GW106 := n3_; have GE106 := n4_; have NB105_106 := n5_; have NB106_105 := n6_; clear n0_ n1_ n2_ n3_ n4_ n5_ n6_; clear hb hbox hg; have hnb15 := NB105_106.out; have hnc15 := NB106_105.out; have hcz16_0 : w14.cell? ⟨gb105, 0, none⟩ = some (.int .u8 a0_0) := (blk_cell BK105.out 0).trans rfl; have hcz16_1 : w14.cell? ⟨gb105, 1, none⟩ = some (.int .i64 a0_1) := (blk_cell BK105.out 1).trans rfl; have hcz16_2 : w14.cell? ⟨gb105, 2, none⟩ = some (.string a0_2) := (blk_cell BK105.out 2).trans rfl; have hfz16_0 := blk_frozen BK105.out 0; have hfz16_1 := blk_frozen BK105.out 1; have hfz16_2 := blk_frozen BK105.out 2; have hcz17_0 : w14.cell? ⟨gb106, 0, none⟩ = some (.int .u8 a1_0) := (blk_cell BK106.out 0).trans rfl; have hcz17_1 : w14.cell? ⟨gb106, 1, none⟩ = some (.int .i64 a1_1) := (blk_cell BK106.out 1).trans rfl; have hcz17_2 : w14.cell? ⟨gb106, 2, none⟩ = some (.string a1_2) := (blk_cell BK106.out 2).trans rfl; have hfz17_0 := blk_frozen BK106.out 0; have hfz17_1 := blk_frozen BK106.out 1; have hfz17_2 := blk_frozen BK106.out 2) | ((with_reducible refine gate_callee (f := 47) rfl ?_); refine goesL_ (some 11) rfl rfl Tryd.func47 (by kernel_rfl) rfl #[.int .u8 a0_0, .int .u8 a1_0] rfl (by (try simp only [List.map_toArray, List.map_cons, List.map_nil]); first | done | rfl | (simp only [List.length_drop, List.length_take]; rfl)) ?_; (with_reducible refine (api_Kind_47.calls a0_0 a1_0 t107 _ A3.out).mono ?_); rintro e w' ⟨rfl, ⟨nd, rfl⟩⟩; refine ⟨_, rfl, ?_⟩) | ((with_reducible refine gate_callee (f := 42) rfl ?_); refine goesL_ (some 19) rfl rfl Tryd.func42 (by kernel_rfl) rfl #[.int .i64 a0_1, .int .i64 a1_1] rfl (by (try simp only [List.map_toArray, List.map_cons, List.map_nil]); first | done | rfl | (simp only [List.length_drop, List.length_take]; rfl)) ?_; (with_reducible refine (cmp_Compare_int64.calls a0_1 a1_1 t108 _ A5.out).mono ?_); rintro e w' ⟨rfl, ⟨nd, rfl⟩⟩; refine ⟨_, rfl, ?_⟩))
   go_ret
   exact ⟨by first | rfl | (simp [errW_none, errW_some] <;> rfl) | (simp [*, errW_none, errW_some] <;> rfl), by repeat (first | (with_reducible first | exact HB.out | apply below_alloc | apply pw_below_drewN | apply below_drew1 | refine below_set ?_ (Aside0.out (by assumption))) | exact HB.out)⟩
 ·rw [if_neg c4] at H
  have c4b0 : (t107 == 0) = false := beq_eq_false_iff_ne.mpr c4
  have c4b1 : (t107 != 0) = true := bne_iff_ne.mpr c4
  obtain rfl := Option.some.inj H
  go_enter Tryd.func11, Tryd.ntmps11
  go_wp2_with (first | ((with_reducible refine gate_dst (N := 2) rfl ?_); refine box_event ?hg (N := 2) ?hd (cs := #[.int .u8 a0_0, .int .i64 a0_1, .string a0_2]) (t := 25) ?hr ?_; (case hd => rfl); (case hg => rfl); (case hr => first | (go_simp; done) | (go_simp; rfl)); intro gb105 hg w18 hbox hb; have n0_ := Aside0.mk (below_step (bw HB.out) hb); have n1_ := Aside0.mk (hbox); have n2_ := Aside0.mk ((by rw [hg]; exact (below_size (bw HB.out)) : w.heap.size ≤ gb105)); have n3_ := Aside0.mk ((by rw [hg]; exact (below_size (bw HB.out)) : w.heap.size ≤ gb105)); clear HB; have HB := n0_; have BK105 := n1_; have GW105 := n2_; have GE105 := n3_; clear n0_ n1_ n2_ n3_; clear hb hbox hg) | ((with_reducible refine gate_dst (N := 3) rfl ?_); refine box_event ?hg (N := 3) ?hd (cs := #[.int .u8 a1_0, .int .i64 a1_1, .string a1_2]) (t := 25) ?hr ?_; (case hd => rfl); (case hg => rfl); (case hr => first | (go_simp; done) | (go_simp; rfl)); intro gb106 hg w19 hbox hb; have n0_ := Aside0.mk (blk_below (bk BK105.out) hb); have n1_ := Aside0.mk (below_step (by repeat (first | (with_reducible first | exact HB.out | apply below_alloc | apply pw_below_drewN | apply below_drew1 | refine below_set ?_ GE105.out) | exact HB.out)) hb); have n2_ := Aside0.mk (hbox); have n3_ := Aside0.mk ((by rw [hg]; exact (below_size (by repeat (first | (with_reducible first | exact HB.out | apply below_alloc | apply pw_below_drewN | apply below_drew1 | refine below_set ?_ GE105.out) | exact HB.out))) : w.heap.size ≤ gb106)); have n4_ := Aside0.mk ((by rw [hg]; exact (below_size (by repeat (first | (with_reducible first | exact HB.out | apply below_alloc | apply pw_below_drewN | apply below_drew1 | refine below_set ?_ GE105.out) | exact HB.out))) : w.heap.size ≤ gb106)); have n5_ := Aside0.mk ((by rw [hg]; exact Nat.ne_of_lt (blk_lt (g := gb105) (o := .cells #[.int .u8 a0_0, .int .i64 a0_1, .string a0_2] 25 (0, 0)) (bk BK105.out)) : gb105 ≠ gb106)); have n6_ := Aside0.mk ((by rw [hg]; exact Nat.ne_of_gt (blk_lt (g := gb105) (o := .cells #[.int .u8 a0_0, .int .i64 a0_1, .string a0_2] 25 (0, 0)) (bk BK105.out)) : gb106 ≠ gb105)); clear BK105; clear HB; have BK105 := n0_; have HB := n1_; have BK106 := n2_; have GW106 := n3_; have GE106 := n4_; have NB105_106 := n5_; have NB106_105 := n6_; clear n0_ n1_ n2_ n3_ n4_ n5_ n6_; clear hb hbox hg; have hnb20 := NB105_106.out; have hnc20 := NB106_105.out; have hcz21_0 : w19.cell? ⟨gb105, 0, none⟩ = some (.int .u8 a0_0) := (blk_cell BK105.out 0).trans rfl; have hcz21_1 : w19.cell? ⟨gb105, 1, none⟩ = some (.int .i64 a0_1) := (blk_cell BK105.out 1).trans rfl; have hcz21_2 : w19.cell? ⟨gb105, 2, none⟩ = some (.string a0_2) := (blk_cell BK105.out 2).trans rfl; have hfz21_0 := blk_frozen BK105.out 0; have hfz21_1 := blk_frozen BK105.out 1; have hfz21_2 := blk_frozen BK105.out 2; have hcz22_0 : w19.cell? ⟨gb106, 0, none⟩ = some (.int .u8 a1_0) := (blk_cell BK106.out 0).trans rfl; have hcz22_1 : w19.cell? ⟨gb106, 1, none⟩ = some (.int .i64 a1_1) := (blk_cell BK106.out 1).trans rfl; have hcz22_2 : w19.cell? ⟨gb106, 2, none⟩ = some (.string a1_2) := (blk_cell BK106.out 2).trans rfl; have hfz22_0 := blk_frozen BK106.out 0; have hfz22_1 := blk_frozen BK106.out 1; have hfz22_2 := blk_frozen BK106.out 2) | ((with_reducible refine gate_callee (f := 47) rfl ?_); refine goesL_ (some 11) rfl rfl Tryd.func47 (by kernel_rfl) rfl #[.int .u8 a0_0, .int .u8 a1_0] rfl (by (try simp only [List.map_toArray, List.map_cons, List.map_nil]); first | done | rfl | (simp only [List.length_drop, List.length_take]; rfl)) ?_; (with_reducible refine (api_Kind_47.calls a0_0 a1_0 t107 _ A3.out).mono ?_); rintro e w' ⟨rfl, ⟨nd, rfl⟩⟩; refine ⟨_, rfl, ?_⟩))
  go_ret
  exact ⟨by first | rfl | (simp [errW_none, errW_some] <;> rfl) | (simp [*, errW_none, errW_some] <;> rfl), by repeat (first | (with_reducible first | exact HB.out | apply below_alloc | apply pw_below_drewN | apply below_drew1 | refine below_set ?_ (Aside0.out (by assumption))) | exact HB.out)⟩
end Go.Proofs.YtbodlnoipkommaaDoor.Q
namespace Go.Proofs.YtbodlnoipkommaaDoor.Q
open Go.RowKit Go.Proofs.YtbodlnoipkommaaDoorW.PrintWords Go.Proofs.YtbodlnoipkommaaDoorW.PrintLast Go.Proofs.YtbodlnoipkommaaDoorW.PrintMore
attribute [local go_sem] max2_int min2_int max_two min_two max_three min_three max_four min_four
set_option linter.unusedVariables false
set_option linter.unusedSimpArgs false
end Go.Proofs.YtbodlnoipkommaaDoor.Q
namespace Go.Proofs.YtbodlnoipkommaaDoor.Q
open Go.RowKit Go.Proofs.YtbodlnoipkommaaDoorW.PrintWords Go.Proofs.YtbodlnoipkommaaDoorW.PrintLast Go.Proofs.YtbodlnoipkommaaDoorW.PrintMore
attribute [local go_sem] max2_int min2_int max_two min_two max_three min_three max_four min_four
set_option linter.unusedVariables false
set_option linter.unusedSimpArgs false
end Go.Proofs.YtbodlnoipkommaaDoor.Q
namespace Go.Proofs.YtbodlnoipkommaaDoor.Pa
open Go.RowKit Go.Proofs.YtbodlnoipkommaaDoor.Q Go.Proofs.YtbodlnoipkommaaDoor.We Go.Proofs.YtbodlnoipkommaaDoor.Wf Go.Proofs.YtbodlnoipkommaaDoor.Wg Go.Proofs.YtbodlnoipkommaaDoor.Wh Go.Proofs.YtbodlnoipkommaaDoor.Wj Go.Proofs.YtbodlnoipkommaaDoor.Wk Go.Proofs.YtbodlnoipkommaaDoor.Wo Go.Proofs.YtbodlnoipkommaaDoor.Wp Go.Proofs.YtbodlnoipkommaaDoor.Wq Go.Proofs.YtbodlnoipkommaaDoor.Ws Go.Proofs.YtbodlnoipkommaaDoor.Wt Go.Proofs.YtbodlnoipkommaaDoorW.PrintWords Go.Proofs.YtbodlnoipkommaaDoorW.PrintLast Go.Proofs.YtbodlnoipkommaaDoorW.PrintMore
def cmpI (x y : Int) : Int := if x < y then -1 else if x > y then 1 else 0
theorem cmp64_f (x y : Int) : cmp_Compare_int64.f x y = some (cmpI x y) := by
  unfold cmp_Compare_int64.f cmpI
  have h : ∀ z, cmp_isNaN_int64.f z = some false := fun z => by unfold cmp_isNaN_int64.f; simp
  rw [h, h]
  simp only [Option.bind_some, Bool.false_eq_true, if_false]
  split
  · rfl
  · split <;> rfl
theorem cmpK_f (x y : Int) : api_Kind_47.f x y = some (cmpI x y) := by
  unfold api_Kind_47.f cmpI
  have h : ∀ z, api_Kind_77.f z = some false := fun z => by unfold api_Kind_77.f; simp
  rw [h, h]
  simp only [Option.bind_some, Bool.false_eq_true, if_false]
  split
  · rfl
  · split <;> rfl
def cmpS (s t : ByteArray) : Int := Lib.compareBytes s.data.toList t.data.toList
def orderR (k0 n0 : Int) (s0 : ByteArray) (k1 n1 : Int) (s1 : ByteArray) : Int :=
  if cmpI k0 k1 = 0 then (if cmpI n0 n1 = 0 then cmpS s0 s1 else cmpI n0 n1) else cmpI k0 k1
theorem order_f (k0 n0 : Int) (s0 : ByteArray) (k1 n1 : Int) (s1 : ByteArray) : value_Order.f k0 n0 s0 k1 n1 s1 = some (orderR k0 n0 s0 k1 n1 s1) := by
  unfold value_Order.f orderR
  rw [cmpK_f, cmp64_f]
  simp only [Option.bind_some]
  split
  · split
    · rfl
    · rfl
  · rfl
theorem cmpI_zero {x y : Int} : cmpI x y = 0 ↔ x = y := by unfold cmpI; split <;> (try split) <;> omega
theorem cmpI_range (x y : Int) : cmpI x y = -1 ∨ cmpI x y = 0 ∨ cmpI x y = 1 := by unfold cmpI; split <;> (try split) <;> omega
theorem cb_range : ∀ a b : List UInt8, Lib.compareBytes a b = -1 ∨ Lib.compareBytes a b = 0 ∨ Lib.compareBytes a b = 1
  | [], [] => Or.inr (Or.inl rfl)
  | [], _ :: _ => Or.inl rfl
  | _ :: _, [] => Or.inr (Or.inr rfl)
  | a :: xs, b :: ys => by
    unfold Lib.compareBytes
    split
    · exact Or.inl rfl
    · split
      · exact Or.inr (Or.inr rfl)
      · exact cb_range xs ys
theorem order_range (k0 n0 : Int) (s0 : ByteArray) (k1 n1 : Int) (s1 : ByteArray) : orderR k0 n0 s0 k1 n1 s1 = -1 ∨ orderR k0 n0 s0 k1 n1 s1 = 0 ∨ orderR k0 n0 s0 k1 n1 s1 = 1 := by
  unfold orderR
  split
  · split
    · exact cb_range _ _
    · exact cmpI_range _ _
  · exact cmpI_range _ _
end Go.Proofs.YtbodlnoipkommaaDoor.Pa

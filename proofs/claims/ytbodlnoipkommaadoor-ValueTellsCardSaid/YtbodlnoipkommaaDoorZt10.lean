/- Merged out of this session's texts: Qxf34, Qxf35, Qxf37, Qxf36, Pm, Ryi, CardValueTells -/
import Derived.Test.YtbodlnoipkommaaDoorZt3
import Derived.Test.YtbodlnoipkommaaDoorZt9
import Derived.Test.YtbodlnoipkommaaDoorZt7
import Derived.Test.YtbodlnoipkommaaDoorZt4
set_option linter.unusedVariables false
set_option linter.unusedSimpArgs false
namespace Go.Proofs.YtbodlnoipkommaaDoor.Q
open Go.RowKit Go.Proofs.YtbodlnoipkommaaDoorW.PrintWords Go.Proofs.YtbodlnoipkommaaDoorW.PrintLast Go.Proofs.YtbodlnoipkommaaDoorW.PrintMore
attribute [local go_sem] max2_int min2_int max_two min_two max_three min_three max_four min_four   -- for this text's walks alone
set_option linter.unusedVariables false
set_option linter.unusedSimpArgs false
def chanceryref17_Of.f (a0 : Int) : Option (Int × Int × ByteArray) := (chanceryref17_known.f a0).bind fun t629 => (if t629 = 1 then (some (1, 1, (⟨#[]⟩ : ByteArray))) else (if t629 = 0 then (some (1, 0, (⟨#[]⟩ : ByteArray))) else (some (0, 0, (⟨#[]⟩ : ByteArray)))))
set_option maxHeartbeats 8000000 in
set_option maxRecDepth 100000 in
theorem chanceryref17_Of.calls (a0 : Int) (r1 : Int) (r2 : Int) (r3 : ByteArray) (w : World) (h : chanceryref17_Of.f a0 = some (r1, r2, r3)) :
    Calls Tryd.prog 34 #[.int .u8 a0] w fun e w' => e = .returned (.agg #[.int .u8 r1, .int .i64 r2, .string r3]) ∧ Below w.heap.size w w' := by
  have hu25 := Tryd.underlying25
  have HB := Aside0.mk (Below.refl w.heap.size w)
  have H : ((chanceryref17_known.f a0).bind fun t629 => (if t629 = 1 then (some (1, 1, (⟨#[]⟩ : ByteArray))) else (if t629 = 0 then (some (1, 0, (⟨#[]⟩ : ByteArray))) else (some (0, 0, (⟨#[]⟩ : ByteArray)))))) = some (r1, r2, r3) := h
  clear h
  replace H := Option.bind_eq_some_iff.mp H
  obtain ⟨t629, A20, H⟩ := H
  replace H : (if t629 = 1 then (some (1, 1, (⟨#[]⟩ : ByteArray))) else (if t629 = 0 then (some (1, 0, (⟨#[]⟩ : ByteArray))) else (some (0, 0, (⟨#[]⟩ : ByteArray))))) = some (r1, r2, r3) := H
  have A2 := Aside0.mk A20
  clear A20
  by_cases c3 : t629 = 1
  · rw [if_pos c3] at H
    have c3b0 : (t629 == 1) = true := beq_iff_eq.mpr c3
    have c3b1 : (t629 != 1) = false := bne_eq_false_iff_eq.mpr c3
    clear c3
    simp only [Option.some.injEq, Prod.mk.injEq] at H
    obtain ⟨rfl, rfl, rfl⟩ := H
    go_enter Tryd.func34, Tryd.ntmps34
    go_wp2_with (first | ((with_reducible refine gate_dst (N := 2) rfl ?_); refine box_event ?hg (N := 2) ?hd (cs := #[.int .u8 0, .int .i64 0, .string (⟨#[]⟩ : ByteArray)]) (t := 25) ?hr ?_; (case hd => rfl); (case hg => rfl); (case hr => first | (go_simp; done) | (go_simp; rfl)); intro gb628 hg w4 hbox hb; have n0_ := Aside0.mk (below_step (by repeat (first | (with_reducible first | exact HB.out | apply below_alloc | apply pw_below_drewN | apply below_drew1) | exact HB.out)) hb); have n1_ := Aside0.mk (hbox); have n2_ := Aside0.mk ((by rw [hg]; exact (below_size (by repeat (first | (with_reducible first | exact HB.out | apply below_alloc | apply pw_below_drewN | apply below_drew1) | exact HB.out))) : w.heap.size ≤ gb628)); have n3_ := Aside0.mk ((by rw [hg]; exact (below_size (by repeat (first | (with_reducible first | exact HB.out | apply below_alloc | apply pw_below_drewN | apply below_drew1) | exact HB.out))) : w.heap.size ≤ gb628)); clear HB; have HB := n0_; have BK628 := n1_; have GW628 := n2_; have GE628 := n3_; clear n0_ n1_ n2_ n3_; clear hb hbox hg) | ((with_reducible refine gate_callee (f := 71) rfl ?_); refine goesL_ (some 4) rfl rfl Tryd.func71 (by kernel_rfl) rfl #[.int .u8 a0] rfl (by (try simp only [List.map_toArray, List.map_cons, List.map_nil]); first | done | rfl | (simp only [List.length_drop, List.length_take]; rfl)) ?_; (with_reducible refine (chanceryref17_known.calls a0 t629 _ A2.out).mono ?_); rintro e w' ⟨rfl, ⟨nd, rfl⟩⟩; refine ⟨_, rfl, ?_⟩; (try (rw [drewN_self w4]; generalize hq_ : World.drewN w4 _ = w4; have n0_ : Aside0 (w4.heap[gb628]? = some (.cells #[.int .u8 0, .int .i64 0, .string (⟨#[]⟩ : ByteArray)] 25 (0, 0))) := ⟨by rw [← hq_]; exact (by (with_reducible repeat (first | refine blk_drewN ?_ _ | refine blk_drew ?_ | refine blk_alloc ?_ _)); exact BK628.out)⟩; have n1_ : Aside0 (Below w.heap.size w w4) := ⟨by rw [← hq_]; exact (by repeat (first | (with_reducible first | exact HB.out | apply below_alloc | apply pw_below_drewN | apply below_drew1 | refine below_set ?_ GE628.out) | exact HB.out))⟩; clear BK628 HB hq_; have BK628 := n0_; have HB := n1_; clear n0_ n1_)); have hcz5_0 : w4.cell? ⟨gb628, 0, none⟩ = some (.int .u8 0) := (blk_cell BK628.out 0).trans rfl; have hcz5_1 : w4.cell? ⟨gb628, 1, none⟩ = some (.int .i64 0) := (blk_cell BK628.out 1).trans rfl; have hcz5_2 : w4.cell? ⟨gb628, 2, none⟩ = some (.string (⟨#[]⟩ : ByteArray)) := (blk_cell BK628.out 2).trans rfl; have hfz5_0 := blk_frozen BK628.out 0; have hfz5_1 := blk_frozen BK628.out 1; have hfz5_2 := blk_frozen BK628.out 2))
    refine bodyPost_ret (results_cell_row rfl _ _ gb628 25 #[.int .u8 1, .int .i64 1, .string (⟨#[]⟩ : ByteArray)] (0, 0) _ rfl (by (with_reducible repeat (first | refine blk_drewN ?_ _ | refine blk_drew ?_ | refine blk_alloc ?_ _)); refine blk_put (cs := #[.int .u8 1, .int .i64 1, .string (⟨#[]⟩ : ByteArray)]) ?_ 2 _ rfl; (with_reducible repeat (first | refine blk_drewN ?_ _ | refine blk_drew ?_ | refine blk_alloc ?_ _)); refine blk_put (cs := #[.int .u8 1, .int .i64 0, .string (⟨#[]⟩ : ByteArray)]) ?_ 1 _ rfl; (with_reducible repeat (first | refine blk_drewN ?_ _ | refine blk_drew ?_ | refine blk_alloc ?_ _)); refine blk_put (cs := #[.int .u8 0, .int .i64 0, .string (⟨#[]⟩ : ByteArray)]) ?_ 0 _ rfl; (with_reducible repeat (first | refine blk_drewN ?_ _ | refine blk_drew ?_ | refine blk_alloc ?_ _)); exact BK628.out) Tryd.underlying25 rfl (by kernel_rfl)) rfl ?_
    exact ⟨by first | rfl | (simp [errW_none, errW_some] <;> rfl) | (simp [*, errW_none, errW_some] <;> rfl), by repeat (first | (with_reducible first | exact HB.out | apply below_alloc | apply pw_below_drewN | apply below_drew1 | refine below_set ?_ GE628.out) | exact HB.out)⟩
  · rw [if_neg c3] at H
    have c3b0 : (t629 == 1) = false := beq_eq_false_iff_ne.mpr c3
    have c3b1 : (t629 != 1) = true := bne_iff_ne.mpr c3
    by_cases c6 : t629 = 0
    · rw [if_pos c6] at H
      have c6b0 : (t629 == 0) = true := beq_iff_eq.mpr c6
      have c6b1 : (t629 != 0) = false := bne_eq_false_iff_eq.mpr c6
      clear c6
      simp only [Option.some.injEq, Prod.mk.injEq] at H
      obtain ⟨rfl, rfl, rfl⟩ := H
      go_enter Tryd.func34, Tryd.ntmps34
      go_wp2_with (first | ((with_reducible refine gate_dst (N := 2) rfl ?_); refine box_event ?hg (N := 2) ?hd (cs := #[.int .u8 0, .int .i64 0, .string (⟨#[]⟩ : ByteArray)]) (t := 25) ?hr ?_; (case hd => rfl); (case hg => rfl); (case hr => first | (go_simp; done) | (go_simp; rfl)); intro gb628 hg w7 hbox hb; have n0_ := Aside0.mk (below_step (by repeat (first | (with_reducible first | exact HB.out | apply below_alloc | apply pw_below_drewN | apply below_drew1) | exact HB.out)) hb); have n1_ := Aside0.mk (hbox); have n2_ := Aside0.mk ((by rw [hg]; exact (below_size (by repeat (first | (with_reducible first | exact HB.out | apply below_alloc | apply pw_below_drewN | apply below_drew1) | exact HB.out))) : w.heap.size ≤ gb628)); have n3_ := Aside0.mk ((by rw [hg]; exact (below_size (by repeat (first | (with_reducible first | exact HB.out | apply below_alloc | apply pw_below_drewN | apply below_drew1) | exact HB.out))) : w.heap.size ≤ gb628)); clear HB; have HB := n0_; have BK628 := n1_; have GW628 := n2_; have GE628 := n3_; clear n0_ n1_ n2_ n3_; clear hb hbox hg) | ((with_reducible refine gate_callee (f := 71) rfl ?_); refine goesL_ (some 4) rfl rfl Tryd.func71 (by kernel_rfl) rfl #[.int .u8 a0] rfl (by (try simp only [List.map_toArray, List.map_cons, List.map_nil]); first | done | rfl | (simp only [List.length_drop, List.length_take]; rfl)) ?_; (with_reducible refine (chanceryref17_known.calls a0 t629 _ A2.out).mono ?_); rintro e w' ⟨rfl, ⟨nd, rfl⟩⟩; refine ⟨_, rfl, ?_⟩; (try (rw [drewN_self w7]; generalize hq_ : World.drewN w7 _ = w7; have n0_ : Aside0 (w7.heap[gb628]? = some (.cells #[.int .u8 0, .int .i64 0, .string (⟨#[]⟩ : ByteArray)] 25 (0, 0))) := ⟨by rw [← hq_]; exact (by (with_reducible repeat (first | refine blk_drewN ?_ _ | refine blk_drew ?_ | refine blk_alloc ?_ _)); exact BK628.out)⟩; have n1_ : Aside0 (Below w.heap.size w w7) := ⟨by rw [← hq_]; exact (by repeat (first | (with_reducible first | exact HB.out | apply below_alloc | apply pw_below_drewN | apply below_drew1 | refine below_set ?_ GE628.out) | exact HB.out))⟩; clear BK628 HB hq_; have BK628 := n0_; have HB := n1_; clear n0_ n1_)); have hcz8_0 : w7.cell? ⟨gb628, 0, none⟩ = some (.int .u8 0) := (blk_cell BK628.out 0).trans rfl; have hcz8_1 : w7.cell? ⟨gb628, 1, none⟩ = some (.int .i64 0) := (blk_cell BK628.out 1).trans rfl; have hcz8_2 : w7.cell? ⟨gb628, 2, none⟩ = some (.string (⟨#[]⟩ : ByteArray)) := (blk_cell BK628.out 2).trans rfl; have hfz8_0 := blk_frozen BK628.out 0; have hfz8_1 := blk_frozen BK628.out 1; have hfz8_2 := blk_frozen BK628.out 2))
      refine bodyPost_ret (results_cell_row rfl _ _ gb628 25 #[.int .u8 1, .int .i64 0, .string (⟨#[]⟩ : ByteArray)] (0, 0) _ rfl (by (with_reducible repeat (first | refine blk_drewN ?_ _ | refine blk_drew ?_ | refine blk_alloc ?_ _)); refine blk_put (cs := #[.int .u8 1, .int .i64 0, .string (⟨#[]⟩ : ByteArray)]) ?_ 2 _ rfl; (with_reducible repeat (first | refine blk_drewN ?_ _ | refine blk_drew ?_ | refine blk_alloc ?_ _)); refine blk_put (cs := #[.int .u8 1, .int .i64 0, .string (⟨#[]⟩ : ByteArray)]) ?_ 1 _ rfl; (with_reducible repeat (first | refine blk_drewN ?_ _ | refine blk_drew ?_ | refine blk_alloc ?_ _)); refine blk_put (cs := #[.int .u8 0, .int .i64 0, .string (⟨#[]⟩ : ByteArray)]) ?_ 0 _ rfl; (with_reducible repeat (first | refine blk_drewN ?_ _ | refine blk_drew ?_ | refine blk_alloc ?_ _)); exact BK628.out) Tryd.underlying25 rfl (by kernel_rfl)) rfl ?_
      exact ⟨by first | rfl | (simp [errW_none, errW_some] <;> rfl) | (simp [*, errW_none, errW_some] <;> rfl), by repeat (first | (with_reducible first | exact HB.out | apply below_alloc | apply pw_below_drewN | apply below_drew1 | refine below_set ?_ GE628.out) | exact HB.out)⟩
    · rw [if_neg c6] at H
      have c6b0 : (t629 == 0) = false := beq_eq_false_iff_ne.mpr c6
      have c6b1 : (t629 != 0) = true := bne_iff_ne.mpr c6
      simp only [Option.some.injEq, Prod.mk.injEq] at H
      obtain ⟨rfl, rfl, rfl⟩ := H
      go_enter Tryd.func34, Tryd.ntmps34
      go_wp2_with (first | ((with_reducible refine gate_dst (N := 2) rfl ?_); refine box_event ?hg (N := 2) ?hd (cs := #[.int .u8 0, .int .i64 0, .string (⟨#[]⟩ : ByteArray)]) (t := 25) ?hr ?_; (case hd => rfl); (case hg => rfl); (case hr => first | (go_simp; done) | (go_simp; rfl)); intro gb628 hg w9 hbox hb; have n0_ := Aside0.mk (below_step (by repeat (first | (with_reducible first | exact HB.out | apply below_alloc | apply pw_below_drewN | apply below_drew1) | exact HB.out)) hb); have n1_ := Aside0.mk (hbox); have n2_ := Aside0.mk ((by rw [hg]; exact (below_size (by repeat (first | (with_reducible first | exact HB.out | apply below_alloc | apply pw_below_drewN | apply below_drew1) | exact HB.out))) : w.heap.size ≤ gb628)); have n3_ := Aside0.mk ((by rw [hg]; exact (below_size (by repeat (first | (with_reducible first | exact HB.out | apply below_alloc | apply pw_below_drewN | apply below_drew1) | exact HB.out))) : w.heap.size ≤ gb628)); clear HB; have HB := n0_; have BK628 := n1_; have GW628 := n2_; have GE628 := n3_; clear n0_ n1_ n2_ n3_; clear hb hbox hg) | ((with_reducible refine gate_callee (f := 71) rfl ?_); refine goesL_ (some 4) rfl rfl Tryd.func71 (by kernel_rfl) rfl #[.int .u8 a0] rfl (by (try simp only [List.map_toArray, List.map_cons, List.map_nil]); first | done | rfl | (simp only [List.length_drop, List.length_take]; rfl)) ?_; (with_reducible refine (chanceryref17_known.calls a0 t629 _ A2.out).mono ?_); rintro e w' ⟨rfl, ⟨nd, rfl⟩⟩; refine ⟨_, rfl, ?_⟩; (try (rw [drewN_self w9]; generalize hq_ : World.drewN w9 _ = w9; have n0_ : Aside0 (w9.heap[gb628]? = some (.cells #[.int .u8 0, .int .i64 0, .string (⟨#[]⟩ : ByteArray)] 25 (0, 0))) := ⟨by rw [← hq_]; exact (by (with_reducible repeat (first | refine blk_drewN ?_ _ | refine blk_drew ?_ | refine blk_alloc ?_ _)); exact BK628.out)⟩; have n1_ : Aside0 (Below w.heap.size w w9) := ⟨by rw [← hq_]; exact (by repeat (first | (with_reducible first | exact HB.out | apply below_alloc | apply pw_below_drewN | apply below_drew1 | refine below_set ?_ GE628.out) | exact HB.out))⟩; clear BK628 HB hq_; have BK628 := n0_; have HB := n1_; clear n0_ n1_)); have hcz10_0 : w9.cell? ⟨gb628, 0, none⟩ = some (.int .u8 0) := (blk_cell BK628.out 0).trans rfl; have hcz10_1 : w9.cell? ⟨gb628, 1, none⟩ = some (.int .i64 0) := (blk_cell BK628.out 1).trans rfl; have hcz10_2 : w9.cell? ⟨gb628, 2, none⟩ = some (.string (⟨#[]⟩ : ByteArray)) := (blk_cell BK628.out 2).trans rfl; have hfz10_0 := blk_frozen BK628.out 0; have hfz10_1 := blk_frozen BK628.out 1; have hfz10_2 := blk_frozen BK628.out 2))
      refine bodyPost_ret (results_cell_row rfl _ _ gb628 25 #[.int .u8 0, .int .i64 0, .string (⟨#[]⟩ : ByteArray)] (0, 0) _ rfl (by (with_reducible repeat (first | refine blk_drewN ?_ _ | refine blk_drew ?_ | refine blk_alloc ?_ _)); refine blk_put (cs := #[.int .u8 0, .int .i64 0, .string (⟨#[]⟩ : ByteArray)]) ?_ 2 _ rfl; (with_reducible repeat (first | refine blk_drewN ?_ _ | refine blk_drew ?_ | refine blk_alloc ?_ _)); refine blk_put (cs := #[.int .u8 0, .int .i64 0, .string (⟨#[]⟩ : ByteArray)]) ?_ 1 _ rfl; (with_reducible repeat (first | refine blk_drewN ?_ _ | refine blk_drew ?_ | refine blk_alloc ?_ _)); refine blk_put (cs := #[.int .u8 0, .int .i64 0, .string (⟨#[]⟩ : ByteArray)]) ?_ 0 _ rfl; (with_reducible repeat (first | refine blk_drewN ?_ _ | refine blk_drew ?_ | refine blk_alloc ?_ _)); exact BK628.out) Tryd.underlying25 rfl (by kernel_rfl)) rfl ?_
      exact ⟨by first | rfl | (simp [errW_none, errW_some] <;> rfl) | (simp [*, errW_none, errW_some] <;> rfl), by repeat (first | (with_reducible first | exact HB.out | apply below_alloc | apply pw_below_drewN | apply below_drew1 | refine below_set ?_ GE628.out) | exact HB.out)⟩
end Go.Proofs.YtbodlnoipkommaaDoor.Q
namespace Go.Proofs.YtbodlnoipkommaaDoor.Q
open Go.RowKit Go.Proofs.YtbodlnoipkommaaDoorW.PrintWords Go.Proofs.YtbodlnoipkommaaDoorW.PrintLast Go.Proofs.YtbodlnoipkommaaDoorW.PrintMore
attribute [local go_sem] max2_int min2_int max_two min_two max_three min_three max_four min_four   -- for this text's walks alone
set_option linter.unusedVariables false
set_option linter.unusedSimpArgs false
def chanceryref17_And.j0 : Nat → Int → Int → Bool → Option (Int)
  | 0, _, _, _ => none
  | k + 1, x0, x1, x9 => if x9 = true then (some 0) else (if x0 = 2 then (some 2) else (if x1 = 2 then (some 2) else (some 1)))
def chanceryref17_And.f (k : Nat) (a0 : Int) (a1 : Int) : Option (Int) := (chanceryref17_known.f a0).bind fun t630 => ((chanceryref17_known.f a1).bind fun t631 => (if t630 = 0 then (chanceryref17_And.j0 k t630 t631 true) else (chanceryref17_And.j0 k t630 t631 (t631 == 0))))
set_option maxHeartbeats 8000000 in
set_option maxRecDepth 100000 in
theorem chanceryref17_And.calls (k : Nat) (a0 : Int) (a1 : Int) (r : Int) (w : World) (h : chanceryref17_And.f k a0 a1 = some r) :
    Calls Tryd.prog 35 #[.int .u8 a0, .int .u8 a1] w fun e w' => e = .returned (.int .u8 r) ∧ Drawn0 w w' := by
  have H : ((chanceryref17_known.f a0).bind fun t630 => ((chanceryref17_known.f a1).bind fun t631 => (if t630 = 0 then (chanceryref17_And.j0 k t630 t631 true) else (chanceryref17_And.j0 k t630 t631 (t631 == 0))))) = some r := h
  clear h
  replace H := Option.bind_eq_some_iff.mp H
  obtain ⟨t630, A30, H⟩ := H
  replace H : ((chanceryref17_known.f a1).bind fun t631 => (if t630 = 0 then (chanceryref17_And.j0 k t630 t631 true) else (chanceryref17_And.j0 k t630 t631 (t631 == 0)))) = some r := H
  have A3 := Aside0.mk A30
  clear A30
  replace H := Option.bind_eq_some_iff.mp H
  obtain ⟨t631, A40, H⟩ := H
  replace H : (if t630 = 0 then (chanceryref17_And.j0 k t630 t631 true) else (chanceryref17_And.j0 k t630 t631 (t631 == 0))) = some r := H
  have A4 := Aside0.mk A40
  clear A40
  have HC5 := Aside0.mk H
  clear H
  go_enter Tryd.func35, Tryd.ntmps35
  go_upto_region 2 with (first | ((with_reducible refine gate_callee (f := 71) rfl ?_); refine goesL_ (some 6) rfl rfl Tryd.func71 (by kernel_rfl) rfl #[.int .u8 a0] rfl (by (try simp only [List.map_toArray, List.map_cons, List.map_nil]); first | done | rfl | (simp only [List.length_drop, List.length_take]; rfl)) ?_; (with_reducible refine (chanceryref17_known.calls a0 t630 _ A3.out).mono ?_); rintro e w' ⟨rfl, ⟨nd, rfl⟩⟩; refine ⟨_, rfl, ?_⟩) | ((with_reducible refine gate_callee (f := 71) rfl ?_); refine goesL_ (some 8) rfl rfl Tryd.func71 (by kernel_rfl) rfl #[.int .u8 a1] rfl (by (try simp only [List.map_toArray, List.map_cons, List.map_nil]); first | done | rfl | (simp only [List.length_drop, List.length_take]; rfl)) ?_; (with_reducible refine (chanceryref17_known.calls a1 t631 _ A4.out).mono ?_); rintro e w' ⟨rfl, ⟨nd, rfl⟩⟩; refine ⟨_, rfl, ?_⟩))
  (try simp only [Act.put, List.setIfInBounds_toArray, List.set_cons_zero, List.set_cons_succ])
  go_cut [9] (fun v9 wc => ∃ (kq : Nat) (x9_4 : Bool), v9 = .bool x9_4 ∧ Aside0 (chanceryref17_And.j0 kq t630 t631 x9_4 = some r) ∧ Aside0 (kq ≤ k) ∧ Drawn0 w wc)
  case first =>
    have H := HC5.out
    clear HC5
    by_cases c6 : t630 = 0
    · rw [if_pos c6] at H
      have c6b0 : (t630 == 0) = true := beq_iff_eq.mpr c6
      have c6b1 : (t630 != 0) = false := bne_eq_false_iff_eq.mpr c6
      clear c6
      (first | rw [c6b0] | (simp only [i64_w, i32_w]; rw [c6b0]) | skip)
      have H' := Aside0.mk H
      clear H
      go_wp2
      go_meet
      case rel => exact ⟨_, (true), (by first | rfl | (simp; done) | (simp [*]; done)), H', ⟨by first | omega | exact Nat.le_refl _⟩, by repeat (first | exact Drawn0.refl _ | apply Drawn0.step)⟩
    · rw [if_neg c6] at H
      have c6b0 : (t630 == 0) = false := beq_eq_false_iff_ne.mpr c6
      have c6b1 : (t630 != 0) = true := bne_iff_ne.mpr c6
      (first | rw [c6b0] | (simp only [i64_w, i32_w]; rw [c6b0]) | skip)
      have H' := Aside0.mk H
      clear H
      go_wp2
      go_meet
      case rel => exact ⟨_, ((t631 == 0)), (by first | rfl | (simp; done) | (simp [*]; done)), H', ⟨by first | omega | exact Nat.le_refl _⟩, by repeat (first | exact Drawn0.refl _ | apply Drawn0.step)⟩
  case rest =>
    clear HC5
    try clear p2
    try clear c3
    try clear c6
    try clear c6b0
    try clear c6b1
    obtain ⟨kq, x9_4, rfl, HA, HJ4, ⟨mc4, rfl⟩⟩ := hcut
    cases kq with
    | zero => exact absurd HA.out (by simp [chanceryref17_And.j0])
    | succ kj4 =>
      have H := HA.out
      clear HA
      simp only [chanceryref17_And.j0] at H
      by_cases c7 : x9_4 = true
      · subst c7
        have H1 : (some 0) = some r := by rw [if_pos rfl] at H; exact H
        clear H
        have H := H1
        clear H1
        obtain rfl := Option.some.inj H
        go_wp2
        go_ret
        exact ⟨by first | rfl | (simp; done) | (simp [*]; done), by repeat (first | exact Drawn0.refl _ | apply Drawn0.step)⟩
      · replace c7 := Bool.eq_false_iff.mpr c7
        subst c7
        have H1 : (if t630 = 2 then (some 2) else (if t631 = 2 then (some 2) else (some 1))) = some r := by rw [if_neg (show ¬ (false = true) by decide)] at H; exact H
        clear H
        have H := H1
        clear H1
        by_cases c8 : t630 = 2
        · rw [if_pos c8] at H
          have c8b0 : (t630 == 2) = true := beq_iff_eq.mpr c8
          have c8b1 : (t630 != 2) = false := bne_eq_false_iff_eq.mpr c8
          clear c8
          obtain rfl := Option.some.inj H
          go_wp2
          go_ret
          exact ⟨by first | rfl | (simp; done) | (simp [*]; done), by repeat (first | exact Drawn0.refl _ | apply Drawn0.step)⟩
        · rw [if_neg c8] at H
          have c8b0 : (t630 == 2) = false := beq_eq_false_iff_ne.mpr c8
          have c8b1 : (t630 != 2) = true := bne_iff_ne.mpr c8
          by_cases c9 : t631 = 2
          · rw [if_pos c9] at H
            have c9b0 : (t631 == 2) = true := beq_iff_eq.mpr c9
            have c9b1 : (t631 != 2) = false := bne_eq_false_iff_eq.mpr c9
            clear c9
            obtain rfl := Option.some.inj H
            go_wp2
            go_ret
            exact ⟨by first | rfl | (simp; done) | (simp [*]; done), by repeat (first | exact Drawn0.refl _ | apply Drawn0.step)⟩
          · rw [if_neg c9] at H
            have c9b0 : (t631 == 2) = false := beq_eq_false_iff_ne.mpr c9
            have c9b1 : (t631 != 2) = true := bne_iff_ne.mpr c9
            obtain rfl := Option.some.inj H
            go_wp2
            go_ret
            exact ⟨by first | rfl | (simp; done) | (simp [*]; done), by repeat (first | exact Drawn0.refl _ | apply Drawn0.step)⟩
end Go.Proofs.YtbodlnoipkommaaDoor.Q
namespace Go.Proofs.YtbodlnoipkommaaDoor.Q
open Go.RowKit Go.Proofs.YtbodlnoipkommaaDoorW.PrintWords Go.Proofs.YtbodlnoipkommaaDoorW.PrintLast Go.Proofs.YtbodlnoipkommaaDoorW.PrintMore
attribute [local go_sem] max2_int min2_int max_two min_two max_three min_three max_four min_four   -- for this text's walks alone
set_option linter.unusedVariables false
set_option linter.unusedSimpArgs false
def chanceryref17_Not.f (a0 : Int) : Option (Int) := (chanceryref17_known.f a0).bind fun t632 => (if t632 = 1 then (some 0) else (if t632 = 0 then (some 1) else (some 2)))
set_option maxHeartbeats 8000000 in
set_option maxRecDepth 100000 in
theorem chanceryref17_Not.calls (a0 : Int) (r : Int) (w : World) (h : chanceryref17_Not.f a0 = some r) :
    Calls Tryd.prog 37 #[.int .u8 a0] w fun e w' => e = .returned (.int .u8 r) ∧ Drawn0 w w' := by
  have H : ((chanceryref17_known.f a0).bind fun t632 => (if t632 = 1 then (some 0) else (if t632 = 0 then (some 1) else (some 2)))) = some r := h
  clear h
  replace H := Option.bind_eq_some_iff.mp H
  obtain ⟨t632, A20, H⟩ := H
  replace H : (if t632 = 1 then (some 0) else (if t632 = 0 then (some 1) else (some 2))) = some r := H
  have A2 := Aside0.mk A20
  clear A20
  by_cases c3 : t632 = 1
  · rw [if_pos c3] at H
    have c3b0 : (t632 == 1) = true := beq_iff_eq.mpr c3
    have c3b1 : (t632 != 1) = false := bne_eq_false_iff_eq.mpr c3
    clear c3
    obtain rfl := Option.some.inj H
    go_enter Tryd.func37, Tryd.ntmps37
    go_wp2_with (first | ((with_reducible refine gate_callee (f := 71) rfl ?_); refine goesL_ (some 4) rfl rfl Tryd.func71 (by kernel_rfl) rfl #[.int .u8 a0] rfl (by (try simp only [List.map_toArray, List.map_cons, List.map_nil]); first | done | rfl | (simp only [List.length_drop, List.length_take]; rfl)) ?_; (with_reducible refine (chanceryref17_known.calls a0 t632 _ A2.out).mono ?_); rintro e w' ⟨rfl, ⟨nd, rfl⟩⟩; refine ⟨_, rfl, ?_⟩))
    go_ret
    exact ⟨by first | rfl | (simp; done) | (simp [*]; done), by repeat (first | exact Drawn0.refl _ | apply Drawn0.step)⟩
  · rw [if_neg c3] at H
    have c3b0 : (t632 == 1) = false := beq_eq_false_iff_ne.mpr c3
    have c3b1 : (t632 != 1) = true := bne_iff_ne.mpr c3
    by_cases c4 : t632 = 0
    · rw [if_pos c4] at H
      have c4b0 : (t632 == 0) = true := beq_iff_eq.mpr c4
      have c4b1 : (t632 != 0) = false := bne_eq_false_iff_eq.mpr c4
      clear c4
      obtain rfl := Option.some.inj H
      go_enter Tryd.func37, Tryd.ntmps37
      go_wp2_with (first | ((with_reducible refine gate_callee (f := 71) rfl ?_); refine goesL_ (some 4) rfl rfl Tryd.func71 (by kernel_rfl) rfl #[.int .u8 a0] rfl (by (try simp only [List.map_toArray, List.map_cons, List.map_nil]); first | done | rfl | (simp only [List.length_drop, List.length_take]; rfl)) ?_; (with_reducible refine (chanceryref17_known.calls a0 t632 _ A2.out).mono ?_); rintro e w' ⟨rfl, ⟨nd, rfl⟩⟩; refine ⟨_, rfl, ?_⟩))
      go_ret
      exact ⟨by first | rfl | (simp; done) | (simp [*]; done), by repeat (first | exact Drawn0.refl _ | apply Drawn0.step)⟩
    · rw [if_neg c4] at H
      have c4b0 : (t632 == 0) = false := beq_eq_false_iff_ne.mpr c4
      have c4b1 : (t632 != 0) = true := bne_iff_ne.mpr c4
      obtain rfl := Option.some.inj H
      go_enter Tryd.func37, Tryd.ntmps37
      go_wp2_with (first | ((with_reducible refine gate_callee (f := 71) rfl ?_); refine goesL_ (some 4) rfl rfl Tryd.func71 (by kernel_rfl) rfl #[.int .u8 a0] rfl (by (try simp only [List.map_toArray, List.map_cons, List.map_nil]); first | done | rfl | (simp only [List.length_drop, List.length_take]; rfl)) ?_; (with_reducible refine (chanceryref17_known.calls a0 t632 _ A2.out).mono ?_); rintro e w' ⟨rfl, ⟨nd, rfl⟩⟩; refine ⟨_, rfl, ?_⟩))
      go_ret
      exact ⟨by first | rfl | (simp; done) | (simp [*]; done), by repeat (first | exact Drawn0.refl _ | apply Drawn0.step)⟩
end Go.Proofs.YtbodlnoipkommaaDoor.Q
namespace Go.Proofs.YtbodlnoipkommaaDoor.Q
open Go.RowKit Go.Proofs.YtbodlnoipkommaaDoorW.PrintWords Go.Proofs.YtbodlnoipkommaaDoorW.PrintLast Go.Proofs.YtbodlnoipkommaaDoorW.PrintMore
attribute [local go_sem] max2_int min2_int max_two min_two max_three min_three max_four min_four   -- for this text's walks alone
set_option linter.unusedVariables false
set_option linter.unusedSimpArgs false
def chanceryref17_Or.f (k : Nat) (a0 : Int) (a1 : Int) : Option (Int) := (chanceryref17_Not.f a0).bind fun t633 => ((chanceryref17_Not.f a1).bind fun t634 => ((chanceryref17_And.f k t633 t634).bind fun t635 => ((chanceryref17_Not.f t635).bind fun t636 => (some t636))))
set_option maxHeartbeats 8000000 in
set_option maxRecDepth 100000 in
theorem chanceryref17_Or.calls (k : Nat) (a0 : Int) (a1 : Int) (r : Int) (w : World) (h : chanceryref17_Or.f k a0 a1 = some r) :
    Calls Tryd.prog 36 #[.int .u8 a0, .int .u8 a1] w fun e w' => e = .returned (.int .u8 r) ∧ Drawn0 w w' := by
  have H : ((chanceryref17_Not.f a0).bind fun t633 => ((chanceryref17_Not.f a1).bind fun t634 => ((chanceryref17_And.f k t633 t634).bind fun t635 => ((chanceryref17_Not.f t635).bind fun t636 => (some t636))))) = some r := h
  clear h
  replace H := Option.bind_eq_some_iff.mp H
  obtain ⟨t633, A30, H⟩ := H
  replace H : ((chanceryref17_Not.f a1).bind fun t634 => ((chanceryref17_And.f k t633 t634).bind fun t635 => ((chanceryref17_Not.f t635).bind fun t636 => (some t636)))) = some r := H
  have A3 := Aside0.mk A30
  clear A30
  replace H := Option.bind_eq_some_iff.mp H
  obtain ⟨t634, A40, H⟩ := H
  replace H : ((chanceryref17_And.f k t633 t634).bind fun t635 => ((chanceryref17_Not.f t635).bind fun t636 => (some t636))) = some r := H
  have A4 := Aside0.mk A40
  clear A40
  replace H := Option.bind_eq_some_iff.mp H
  obtain ⟨t635, A50, H⟩ := H
  replace H : ((chanceryref17_Not.f t635).bind fun t636 => (some t636)) = some r := H
  have A5 := Aside0.mk A50
  clear A50
  replace H := Option.bind_eq_some_iff.mp H
  obtain ⟨t636, A60, H⟩ := H
  replace H : (some t636) = some r := H
  have A6 := Aside0.mk A60
  clear A60
  obtain rfl := Option.some.inj H
  go_enter Tryd.func36, Tryd.ntmps36
  go_wp2_with (first | ((with_reducible refine gate_callee (f := 37) rfl ?_); refine goesL_ (some 6) rfl rfl Tryd.func37 (by kernel_rfl) rfl #[.int .u8 a0] rfl (by (try simp only [List.map_toArray, List.map_cons, List.map_nil]); first | done | rfl | (simp only [List.length_drop, List.length_take]; rfl)) ?_; (with_reducible refine (chanceryref17_Not.calls a0 t633 _ A3.out).mono ?_); rintro e w' ⟨rfl, ⟨nd, rfl⟩⟩; refine ⟨_, rfl, ?_⟩) | ((with_reducible refine gate_callee (f := 37) rfl ?_); refine goesL_ (some 8) rfl rfl Tryd.func37 (by kernel_rfl) rfl #[.int .u8 a1] rfl (by (try simp only [List.map_toArray, List.map_cons, List.map_nil]); first | done | rfl | (simp only [List.length_drop, List.length_take]; rfl)) ?_; (with_reducible refine (chanceryref17_Not.calls a1 t634 _ A4.out).mono ?_); rintro e w' ⟨rfl, ⟨nd, rfl⟩⟩; refine ⟨_, rfl, ?_⟩) | ((with_reducible refine gate_callee (f := 35) rfl ?_); refine goesL_ (some 9) rfl rfl Tryd.func35 (by kernel_rfl) rfl #[.int .u8 t633, .int .u8 t634] rfl (by (try simp only [List.map_toArray, List.map_cons, List.map_nil]); first | done | rfl | (simp only [List.length_drop, List.length_take]; rfl)) ?_; (with_reducible refine (chanceryref17_And.calls k t633 t634 t635 _ A5.out).mono ?_); rintro e w' ⟨rfl, ⟨nd, rfl⟩⟩; refine ⟨_, rfl, ?_⟩) | ((with_reducible refine gate_callee (f := 37) rfl ?_); refine goesL_ (some 10) rfl rfl Tryd.func37 (by kernel_rfl) rfl #[.int .u8 t635] rfl (by (try simp only [List.map_toArray, List.map_cons, List.map_nil]); first | done | rfl | (simp only [List.length_drop, List.length_take]; rfl)) ?_; (with_reducible refine (chanceryref17_Not.calls t635 t636 _ A6.out).mono ?_); rintro e w' ⟨rfl, ⟨nd, rfl⟩⟩; refine ⟨_, rfl, ?_⟩))
  go_ret
  exact ⟨by first | rfl | (simp; done) | (simp [*]; done), by repeat (first | exact Drawn0.refl _ | apply Drawn0.step)⟩
end Go.Proofs.YtbodlnoipkommaaDoor.Q
namespace Go.Proofs.YtbodlnoipkommaaDoor.Pm
open Go Go.RowKit Go.Proofs.YtbodlnoipkommaaDoor.Q Go.Proofs.YtbodlnoipkommaaDoor.Wf Go.Proofs.YtbodlnoipkommaaDoor.Wg Go.Proofs.YtbodlnoipkommaaDoor.Wh Go.Proofs.YtbodlnoipkommaaDoor.Wk Go.Proofs.YtbodlnoipkommaaDoor.Wo Go.Proofs.YtbodlnoipkommaaDoor.Wp Go.Proofs.YtbodlnoipkommaaDoor.Wt Go.Proofs.YtbodlnoipkommaaDoor.Pa Go.Proofs.YtbodlnoipkommaaDoor.Pb Go.Proofs.YtbodlnoipkommaaDoor.Pf Go.Proofs.YtbodlnoipkommaaDoor.Ph Go.Proofs.YtbodlnoipkommaaDoor.Pk Go.Proofs.YtbodlnoipkommaaDoor.Xt Go.Proofs.YtbodlnoipkommaaDoorW.PrintWords Go.Proofs.YtbodlnoipkommaaDoorW.PrintLast Go.Proofs.YtbodlnoipkommaaDoorW.PrintMore
def asR (k n : Int) (s : ByteArray) (kk : Int) : V4 :=
  if rightB k n s = false ∨ kk < 1 ∨ kk > 5 then (0, 0, ⟨#[]⟩, 2) else if k = 0 ∨ k = kk then (k, n, s, 0) else if k = 2 ∧ kk = 3 then toldR 3 (fixV k n) else (0, 0, ⟨#[]⟩, 270)
theorem as_f (j : Nat) (k n : Int) (s : ByteArray) (kk : Int) (h : I64 n) : value_As.f (j + 3) k n s kk = some (asR k n s kk) := by
  unfold value_As.f asR
  rw [right_f (j + 2)]
  simp only [Option.bind_some]
  have t0 : value_As.j0 (j + 3) kk true k n s = some (0, 0, ⟨#[]⟩, 2) := by rw [value_As.j0]; rfl
  cases hr : rightB k n s
  · rw [if_neg (by decide), t0, if_pos (Or.inl rfl)]
  rw [if_pos rfl]
  by_cases h1 : kk < 1
  · rw [if_pos h1, t0, if_pos (Or.inr (Or.inl h1))]
  rw [if_neg h1]
  by_cases h5 : kk > 5
  · rw [show decide (kk > 5) = true from decide_eq_true h5, t0, if_pos (Or.inr (Or.inr h5))]
  rw [show decide (kk > 5) = false from decide_eq_false h5, if_neg (by rintro (c | c | c); cases c; exact h1 c; exact h5 c), value_As.j0, if_neg (by decide)]
  have t1 : value_As.j1 (j + 2) kk true k n s = some (k, n, s, 0) := by rw [value_As.j1]; rfl
  by_cases k0 : k = 0
  · rw [if_pos k0, t1, if_pos (Or.inl k0)]
  rw [if_neg k0]
  by_cases kq : k = kk
  · rw [show (k == kk) = true from beq_iff_eq.2 kq, t1, if_pos (Or.inr kq)]
  rw [beq_false_of_ne kq, if_neg (by rintro (c | c); exact k0 c; exact kq c), value_As.j1, if_neg (by decide)]
  have t2 : value_As.j2 (j + 1) false k n s = some (0, 0, ⟨#[]⟩, 270) := by rw [value_As.j2]; rfl
  by_cases k2 : k = 2
  · rw [if_pos k2]
    by_cases k3 : kk = 3
    · rw [show (kk == 3) = true from beq_iff_eq.2 k3, if_pos ⟨k2, k3⟩, value_As.j2, if_pos rfl, fixed_fV k n s h]
      simp only [Option.bind_some]
      rw [told_fR _ _ (fix_range k n h).1]; rfl
    · rw [beq_false_of_ne k3, t2, if_neg (fun c => k3 c.2)]
  · rw [if_neg k2, t2, if_neg (fun c => k2 c.1)]
theorem ref_as (j : Nat) (k n : Int) (s : ByteArray) (kk : Int) (h : I64 n) : chanceryref17_As.f (j + 3) k n s kk = some (asR k n s kk) := by
  unfold chanceryref17_As.f asR
  rw [ref_right (j + 2)]
  simp only [Option.bind_some]
  have t0 : chanceryref17_As.j0 (j + 3) kk true k n s = some (0, 0, ⟨#[]⟩, 2) := by rw [chanceryref17_As.j0]; rfl
  cases hr : rightB k n s
  · rw [if_neg (by decide), t0, if_pos (Or.inl rfl)]
  rw [if_pos rfl]
  by_cases h1 : kk < 1
  · rw [if_pos h1, t0, if_pos (Or.inr (Or.inl h1))]
  rw [if_neg h1]
  by_cases h5 : kk > 5
  · rw [show decide (kk > 5) = true from decide_eq_true h5, t0, if_pos (Or.inr (Or.inr h5))]
  rw [show decide (kk > 5) = false from decide_eq_false h5, if_neg (by rintro (c | c | c); cases c; exact h1 c; exact h5 c), chanceryref17_As.j0, if_neg (by decide)]
  have t1 : chanceryref17_As.j1 (j + 2) kk true k n s = some (k, n, s, 0) := by rw [chanceryref17_As.j1]; rfl
  by_cases k0 : k = 0
  · rw [if_pos k0, t1, if_pos (Or.inl k0)]
  rw [if_neg k0]
  by_cases kq : k = kk
  · rw [show (k == kk) = true from beq_iff_eq.2 kq, t1, if_pos (Or.inr kq)]
  rw [beq_false_of_ne kq, if_neg (by rintro (c | c); exact k0 c; exact kq c), chanceryref17_As.j1, if_neg (by decide)]
  have t2 : chanceryref17_As.j2 (j + 1) false k n s = some (0, 0, ⟨#[]⟩, 270) := by rw [chanceryref17_As.j2]; rfl
  by_cases k2 : k = 2
  · rw [if_pos k2]
    by_cases k3 : kk = 3
    · rw [show (kk == 3) = true from beq_iff_eq.2 k3, if_pos ⟨k2, k3⟩, chanceryref17_As.j2, if_pos rfl, fixedB k n s h]
      simp only [Option.bind_some, B]
      have ha := fix_abs k n h
      rw [answerB 3 _ _ ⟨ha.1, by omega⟩, vl_abs]; rfl
    · rw [beq_false_of_ne k3, t2, if_neg (fun c => k3 c.2)]
  · rw [if_neg k2, t2, if_neg (fun c => k2 c.1)]
def truthR (k n : Int) (s : ByteArray) : Int × Int := if rightB k n s = false ∨ k > 1 then (0, 270) else if k = 0 then (2, 0) else (n, 0)
theorem right_bool {n : Int} {s : ByteArray} (h : rightB 1 n s = true) : n = 0 ∨ n = 1 := ((right_parts h).2.1 rfl).1
theorem right_kinds {k n : Int} {s : ByteArray} (h : rightB k n s = true) (h1 : ¬ k > 1) (h0 : ¬ k = 0) : k = 1 := by
  have := right_kind h; omega
theorem truth_fR (j : Nat) (k n : Int) (s : ByteArray) : value_Truth.f (j + 1) k n s = some (truthR k n s) := by
  unfold value_Truth.f truthR
  rw [right_f j]
  simp only [Option.bind_some]
  have t0 : value_Truth.j0 (j + 1) true k n s = some (0, 270) := by rw [value_Truth.j0]; rfl
  cases hr : rightB k n s
  · rw [if_neg (by decide), t0, if_pos (Or.inl rfl)]
  rw [if_pos rfl]
  by_cases h1 : k > 1
  · rw [show decide (k > 1) = true from decide_eq_true h1, t0, if_pos (Or.inr h1)]
  rw [show decide (k > 1) = false from decide_eq_false h1, if_neg (by rintro (c | c); cases c; exact h1 c), value_Truth.j0, if_neg (by decide)]
  by_cases h0 : k = 0
  · rw [if_pos h0, if_pos h0]
  · rw [if_neg h0, if_neg h0]
    obtain rfl := right_kinds hr h1 h0
    rcases right_bool hr with rfl | rfl <;> rfl
theorem ref_truth (j : Nat) (k n : Int) (s : ByteArray) : chanceryref17_Truth.f (j + 1) k n s = some (truthR k n s) := by
  unfold chanceryref17_Truth.f truthR
  rw [ref_right j]
  simp only [Option.bind_some]
  have t0 : chanceryref17_Truth.j0 (j + 1) true k n s = some (0, 270) := by rw [chanceryref17_Truth.j0]; rfl
  cases hr : rightB k n s
  · rw [if_neg (by decide), t0, if_pos (Or.inl rfl)]
  rw [if_pos rfl]
  by_cases h1 : k > 1
  · rw [show decide (k > 1) = true from decide_eq_true h1, t0, if_pos (Or.inr h1)]
  rw [show decide (k > 1) = false from decide_eq_false h1, if_neg (by rintro (c | c); cases c; exact h1 c), chanceryref17_Truth.j0, if_neg (by decide)]
  by_cases h0 : k = 0
  · rw [if_pos h0, if_pos h0]
  · rw [if_neg h0, if_neg h0]
    obtain rfl := right_kinds hr h1 h0
    rcases right_bool hr with rfl | rfl <;> rfl
theorem ref_of (t : Int) : chanceryref17_Of.f t = value_Of.f t := by
  unfold chanceryref17_Of.f value_Of.f chanceryref17_known.f
  by_cases h1 : t = 1
  · subst h1; rfl
  by_cases h0 : t = 0
  · subst h0; rfl
  · simp only [h1, h0, if_false, Option.bind_some]; rfl
theorem known_f (t : Int) : chanceryref17_known.f t = some (tr (rk t)) := by
  unfold chanceryref17_known.f tr rk
  by_cases h1 : t = 1
  · subst h1; rfl
  by_cases h0 : t = 0
  · subst h0; rfl
  · simp only [h1, h0, if_false]; rfl
theorem ref_not (t : Int) : chanceryref17_Not.f t = some (tr (2 - rk t)) := by
  unfold chanceryref17_Not.f
  rw [known_f]
  rcases rk_cases t with h | h | h <;> rw [h] <;> rfl
theorem ref_and (j : Nat) (a b : Int) : chanceryref17_And.f (j + 1) a b = some (tr (min (rk a) (rk b))) := by
  unfold chanceryref17_And.f
  rw [known_f, known_f]
  rcases rk_cases a with h | h | h <;> rcases rk_cases b with h' | h' | h' <;> rw [h, h'] <;> rfl
theorem ref_or (j : Nat) (a b : Int) : chanceryref17_Or.f (j + 1) a b = some (tr (max (rk a) (rk b))) := by
  unfold chanceryref17_Or.f
  rw [ref_not, ref_not]
  simp only [Option.bind_some]
  rw [ref_and]
  simp only [Option.bind_some]
  rw [ref_not]
  rcases rk_cases a with h | h | h <;> rcases rk_cases b with h' | h' | h' <;> rw [h, h'] <;> rfl
theorem tells_calls (k n : Int) (s : ByteArray) (kk t : Int) (w : World) (hg : VOK w) (h : I64 n) :
    Calls Tryd.prog 8 #[.agg #[.int .u8 k, .int .i64 n, .string s], .int .u8 kk, .int .u8 t] w fun e w' => e = .returned (.bool true) ∧ Below w.heap.size w w' := by
  have hp : value_Print.f k n s = some (printR k n s) := by unfold value_Print.f; rw [if_pos h]
  have ho : ∃ r1 r2 r3, value_Of.f t = some (r1, r2, r3) := by
    unfold value_Of.f; split
    · exact ⟨_, _, _, rfl⟩
    · split <;> exact ⟨_, _, _, rfl⟩
  obtain ⟨o1, o2, o3, ho⟩ := ho
  exact tells_walk k n kk t _ _ _ _ _ o1 o2 _ _ _ s _ o3 _ w hg
    (fun W => value_As.calls 3 k n s kk _ _ _ _ W (as_f 0 k n s kk h)) (fun W => chanceryref17_As.calls 3 k n s kk _ _ _ _ W (ref_as 0 k n s kk h))
    (fun W => value_Truth.calls 1 k n s _ _ W (truth_fR 0 k n s)) (fun W => chanceryref17_Truth.calls 1 k n s _ _ W (ref_truth 0 k n s))
    (fun W hW => value_Print.calls k n s _ W hp hW) (fun W => chanceryref17_Print.calls 300 k n s _ W (ref_print k n s h))
    (fun W => value_Of.calls t _ _ _ W ho) (fun W => chanceryref17_Of.calls t _ _ _ W ((ref_of t).trans ho))
    (fun W hW => value_And.calls t kk _ W rfl hW) (fun W => chanceryref17_And.calls 1 t kk _ W (ref_and 0 t kk))
    (fun W hW => value_Or.calls t kk _ W rfl hW) (fun W => chanceryref17_Or.calls 1 t kk _ W (ref_or 0 t kk))
    (fun W hW => value_Not.calls t _ W rfl hW) (fun W => chanceryref17_Not.calls t _ W (ref_not t))
end Go.Proofs.YtbodlnoipkommaaDoor.Pm
namespace Go.Proofs.YtbodlnoipkommaaDoor.Ry
open Go.RowKit
theorem i64_of {n : Int} (h : (Lit.int .i64 n).wf = true) : Wp.I64 n := by
  have h' : decide (IntKind.i64.min ≤ n) = true ∧ decide (n ≤ IntKind.i64.max) = true := by simpa [Lit.wf] using h
  have a := of_decide_eq_true h'.1
  have b := of_decide_eq_true h'.2
  have e1 : IntKind.i64.min = -9223372036854775808 := rfl
  have e2 : IntKind.i64.max = 9223372036854775807 := rfl
  rw [e1] at a
  rw [e2] at b
  exact ⟨a, by omega⟩
end Go.Proofs.YtbodlnoipkommaaDoor.Ry
namespace Go.Proofs.YtbodlnoipkommaaDoor.valueTells
open Go.ChangeShapes Go.WideShapes Go.ChangeAt Go.RowKit Go.Proofs.YtbodlnoipkommaaDoor.Ry
open Go.ChangeMaps (open_string shut_string)
set_option linter.unusedVariables false
set_option maxRecDepth 100000 in
theorem lifted (os : Os) (started : os.Started) (H : Type) (enc : TypeId × Value → H) :
    ReturnsInHanded {} Tryd.checked os 8 .any (fun w args => (Rows.valueTellsSpec.pre enc Tryd.prog Tryd.f8 Rows.valueTellsRow.domain false w args ∧ laidMetH Tryd.prog laidL w) ∧ sizedMet enc Tryd.prog Tryd.f8 (OpenSpec.ofChange Rows.valueTellsSpec) false w args)
      (Rows.valueTellsSpec.post enc Tryd.prog Tryd.f8 false true false false) := by
  refine wrap (C := Tryd.checked) own started (by kernel_rfl) Tryd.func8
    (ChangeSpec.witness_shaped (enc := enc) (C := Tryd.checked) (os := os) (X := fun w _ => laidMetH Tryd.prog laidL w) false (World.laidAll Tryd.prog os laidL) #[.agg #[.int .u8 0, .int .i64 0, .string ByteArray.empty], .int .u8 0, .int .u8 0] 8 (World.laidAll_os _ _ _)
      (World.shaped_of_ZipB (by kernel_rfl) (by kernel_rfl)) (by kernel_rfl) (by kernel_rfl) (by kernel_rfl)
      (by rw [MakeChecks.laidMetH_plain _ _ _ (by kernel_rfl)]; exact laidMet_laidAll _ (by kernel_rfl) (by kernel_rfl))) ?_
  intro W base args ds gs before hval0 hW hsz0 hL hsh
  have hsz : (DataW.weightsEach Tryd.prog (Tryd.f8.params.toList ++ Rows.valueTellsSpec.plain.varTypes Tryd.prog) (ds ++ gs)).all (· ≤ reachBytes) = true := hsz0
  have hval : ∀ (j : Nat) t v, Tryd.f8.params[j]? = some t → args[j]? = some v → Value.okWide Tryd.prog W .any base t v := hval0
  have hW' := hW
  obtain ⟨p, q, hA0, hV, rfl, hfz, hnd⟩ := hW
  have hA : DataW.TrodAll enc Tryd.prog W 0 (fun _ => true) true Tryd.f8.params.toList args.toList ds p := hA0
  rw [Tryd.params8] at hA hval hsz
  obtain ⟨v0, vs0, d0, ds0, p0, q0, hargs, rfl, rfl, h0, r0⟩ := trodAll_cons hA
  obtain ⟨v1, vs1, d1, ds1, p1, q1, rfl, rfl, rfl, h1, r1⟩ := trodAll_cons r0
  obtain ⟨v2, vs2, d2, ds2, p2, q2, rfl, rfl, rfl, h2, r2⟩ := trodAll_cons r1
  obtain ⟨rfl, rfl, rfl⟩ := trodAll_nil r2
  obtain rfl : args = #[v0, v1, v2] := by cases args; simp_all
  obtain ⟨rfl, rfl⟩ := trodVars_none hV
  obtain ⟨k0, n0, s0, rfl, rfl, rfl, wk0, wn0, ws0⟩ := open_val (hval 0 25 v0 rfl rfl) h0
  obtain ⟨a1, rfl, rfl, rfl, w1⟩ := open_int Tryd.underlying23 (hval 1 23 v1 rfl rfl) h1
  obtain ⟨a2, rfl, rfl, rfl, w2⟩ := open_int Tryd.underlying26 (hval 2 26 v2 rfl rfl) h2
  clear hA0 hval0 hsz0 hsz
  refine (Pm.tells_calls k0 n0 s0 a1 a2 W (vok hL hsh) (i64_of wn0)).mono fun e W' ⟨he, bel⟩ => ?_
  subst he
  exact ⟨_, rfl, _, _, _, [], _, [], hW', trodAll_mk1 (shut_bool Tryd.underlying4 _), (trodAll_cons_mk (shut_val wk0 wn0 ws0) (trodAll_cons_mk (shut_int Tryd.underlying23 w1) (trodAll_cons_mk (shut_int Tryd.underlying26 w2) trodAll_mk0))), rfl, bel.frame _, fun h => by cases h⟩
theorem over : Rows.valueTellsRow.holds Tryd.pinned (OpenSpec.ofChange Rows.valueTellsSpec) :=
  OpenClaim.holds_of_wide 8 Tryd.f8 rfl rfl rfl rfl rfl rfl rfl ⟨rfl, rfl, rfl, rfl, rfl⟩ rfl rfl rfl rfl rfl (by kernel_rfl) Tryd.func8 (by kernel_rfl)
    (of_decide_eq_true (by kernel_rfl)) (by unfold Func.isWrapper; first | (rw [if_pos (by decide +kernel)]; kernel_rfl) | (rw [if_neg (by decide +kernel)]; exact ⟨rfl, rfl⟩))
    (fun os started H enc _ => lifted os started H enc)
theorem proved : Rows.ValueTellsSaid := over
end Go.Proofs.YtbodlnoipkommaaDoor.valueTells
namespace Go.Proofs.YtbodlnoipkommaaDoor
open Go
set_option maxRecDepth 100000 in
theorem valueTellsCard_holds : Rows.ValueTellsCardSaid :=
  Claim7.holds_tied_plain_at .later [] [.data, .data, .data, .data, .data, .pinned] true (true, "acebfd297a6da68244793249f8eee2e59a50f107c55ed398f41256a6c8c49e27") false
    valueTells.proved (fun _ h => by cases h) (by kernel_rfl) (fun _ h => by cases h) valueTells_row_tie rfl ⟨rfl, rfl⟩ (by kernel_rfl) rfl
    (fun f fn hf hfn => by
      obtain rfl : f = 8 := Option.some.inj ((show Tryd.prog.funcNamed "chancery/chancerylaw17.ValueTells" = some 8 by kernel_rfl).symm.trans hf) |>.symm
      obtain rfl : fn = Tryd.f8 := (Option.some.inj (Tryd.func8.symm.trans hfn)).symm
      exact ⟨by kernel_rfl, fun j t ht => by
        rw [Tryd.params8] at ht
        have hm : t ∈ [25, 23, 26] := by simpa using Array.mem_of_getElem? ht
        have hu : t = 25 ∨ t = 23 ∨ t = 26 := by simpa [or_assoc] using hm
        rcases hu with rfl | rfl | rfl
        · exact (show Tryd.prog.wantsStandIn 25 = false by kernel_rfl)
        · exact (show Tryd.prog.wantsStandIn 23 = false by kernel_rfl)
        · exact (show Tryd.prog.wantsStandIn 26 = false by kernel_rfl)⟩)
    (by kernel_rfl)
#print axioms valueTellsCard_holds
end Go.Proofs.YtbodlnoipkommaaDoor

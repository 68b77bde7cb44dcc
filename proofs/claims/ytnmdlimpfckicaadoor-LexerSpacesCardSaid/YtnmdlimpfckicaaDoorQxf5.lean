-- By a program of this session (wip/printx.py) out of the translation. Not trusted: Lean checks it.
import Derived.Test.YtnmdlimpfckicaaDoorU
import Derived.Test.YtnmdlimpfckicaaDoorQx0
import Derived.Test.YtnmdlimpfckicaaDoorQxe3bc878
import Derived.Test.YtnmdlimpfckicaaDoorQxec0f5a5
import Derived.Test.YtnmdlimpfckicaaDoorQxf10
import Derived.Test.YtnmdlimpfckicaaDoorQxf4
import Derived.Test.YtnmdlimpfckicaaDoorS
namespace Go.Proofs.YtnmdlimpfckicaaDoor.Q
open Go.Proofs.YtnmdlimpfckicaaDoor.S
open Go.RowKit Go.Proofs.YtnmdlimpfckicaaDoorW.PrintWords Go.Proofs.YtnmdlimpfckicaaDoorW.PrintLast Go.Proofs.YtnmdlimpfckicaaDoorW.PrintMore
attribute [local go_sem] Go.Proofs.YtnmdlimpfckicaaDoor.U.cell_twice
attribute [local go_sem] max2_int min2_int max_two min_two max_three min_three max_four min_four   -- for this text's walks alone
set_option linter.unusedVariables false
set_option linter.unusedSimpArgs false

attribute [local go_sem high] eqA25 eqA32
/-! ### chancerylaw19_awake: function 5 -/
def chancerylaw19_awake.j0 : Nat → List (S32) → List (S32) → Bool → Option (Bool)
  | 0, _, _, _ => none
  | k + 1, x1, x5, x41 => if x41 = true then (some false) else (if 3 < (x1.length : Int) then (if (((rd_T32 x1 3).f0) == 5 && ((((rd_T32 x1 3).f1).toList) == ([60, 62] : List UInt8) && (((rd_T32 x1 3).f2) == 3))) = true then (if 4 < (x1.length : Int) then (if (((rd_T32 x1 4).f0) == 3 && ((((rd_T32 x1 4).f1).toList) == ([105, 116, 39, 115] : List UInt8) && (((rd_T32 x1 4).f2) == 5))) = true then (if 0 < (x5.length : Int) then (if ((rd_T32 x5 0).f1).toList = ([0, 255] : List UInt8) then (if 1 < (x5.length : Int) then (if ((rd_T32 x5 1).f1).toList = ([49, 46, 53, 48] : List UInt8) then ((lexer_Name.f (⟨#[97]⟩ : ByteArray)).bind fun t146 => (if t146 = true then ((lexer_Name.f (⟨#[115, 101, 108, 101, 99, 116]⟩ : ByteArray)).bind fun t147 => (if t147 = true then (some false) else ((lexer_Reserved.f (⟨#[115, 101, 108, 101, 99, 116]⟩ : ByteArray)).bind fun t148 => (some t148)))) else (some false))) else (some false)) else (none)) else (some false)) else (none)) else (some false)) else (none)) else (some false)) else (none))
def chancerylaw19_awake.f (k : Nat)  : Option (Bool) := (lexer_Tokens.f k (⟨#[97, 46, 98, 60, 62, 39, 105, 116, 39, 39, 115, 39, 32, 45, 45, 32, 120]⟩ : ByteArray)).bind fun bt124 => ((lexer_Tokens.f k (⟨#[97, 32, 35, 32, 98]⟩ : ByteArray)).bind fun bt130 => ((lexer_Tokens.f k (⟨#[120, 39, 48, 48, 102, 102, 39, 32, 49, 46, 53, 48]⟩ : ByteArray)).bind fun bt136 => (if (!(bt124.2.1 == 0) || (!(bt124.2.2 == 0))) = true then (chancerylaw19_awake.j0 k bt124.1 bt136.1 true) else (if (!(bt130.2.1 == 290) || (!(bt130.2.2 == 2))) = true then (chancerylaw19_awake.j0 k bt124.1 bt136.1 true) else (if (!(bt136.2.1 == 0) || (!(bt136.2.2 == 0))) = true then (chancerylaw19_awake.j0 k bt124.1 bt136.1 true) else (if (bt124.1.length : Int) = 5 then (chancerylaw19_awake.j0 k bt124.1 bt136.1 ((bt136.1.length : Int) != 2)) else (chancerylaw19_awake.j0 k bt124.1 bt136.1 true)))))))
theorem chancerylaw19_awake.mono_l : ∀ k, (∀ y0 y1 y2, LeO (chancerylaw19_awake.j0 k y0 y1 y2) (chancerylaw19_awake.j0 (k + 1) y0 y1 y2))
  | 0 => fun _ _ _ r h => by simp [chancerylaw19_awake.j0] at h
  | k + 1 => by
    have ih0 := chancerylaw19_awake.mono_l k
    · intro y0 y1 y2
      unfold chancerylaw19_awake.j0
      repeat' first
      | (with_reducible exact ih0 _ _ _)
      | (with_reducible exact lexer_Tokens.mono _ _)
      | (with_reducible exact LeO.refl _)
      | (with_reducible exact LeO.none _)
      | (with_reducible refine LeO.ite ?_ ?_)
      | (with_reducible refine LeO.bind ?_ (fun _ => ?_))
      | exact ih0 _ _ _
      | exact lexer_Tokens.mono _ _
      | exact LeO.none _
      | refine LeO.ite ?_ ?_
      | refine LeO.bind ?_ (fun _ => ?_)
theorem chancerylaw19_awake.mono : ∀ k, LeO (chancerylaw19_awake.f k ) (chancerylaw19_awake.f (k + 1) ) := by
  intro  k
  have ih0 := chancerylaw19_awake.mono_l k
  unfold chancerylaw19_awake.f
  repeat' first
      | (with_reducible exact ih0 _ _ _)
      | (with_reducible exact lexer_Tokens.mono _ _)
      | (with_reducible exact LeO.refl _)
      | (with_reducible exact LeO.none _)
      | (with_reducible refine LeO.ite ?_ ?_)
      | (with_reducible refine LeO.bind ?_ (fun _ => ?_))
      | exact ih0 _ _ _
      | exact lexer_Tokens.mono _ _
      | exact LeO.none _
      | refine LeO.ite ?_ ?_
      | refine LeO.bind ?_ (fun _ => ?_)
set_option maxHeartbeats 8000000 in
set_option maxRecDepth 100000 in
theorem chancerylaw19_awake.calls (k : Nat)  (r : Bool) (w : World) (h : chancerylaw19_awake.f k  = some r) (hg : GlobOK w) :
    Calls Tryd.prog 5 #[] w fun e w' => e = .returned (.bool r) ∧ Below w.heap.size w w' := by
  have HG := Aside0.mk hg
  clear hg
  have hu25 := Tryd.underlying25
  have hu32 := Tryd.underlying32
  have HB := Aside0.mk (Below.refl w.heap.size w)
  have H : ((lexer_Tokens.f k (⟨#[97, 46, 98, 60, 62, 39, 105, 116, 39, 39, 115, 39, 32, 45, 45, 32, 120]⟩ : ByteArray)).bind fun bt124 => ((lexer_Tokens.f k (⟨#[97, 32, 35, 32, 98]⟩ : ByteArray)).bind fun bt130 => ((lexer_Tokens.f k (⟨#[120, 39, 48, 48, 102, 102, 39, 32, 49, 46, 53, 48]⟩ : ByteArray)).bind fun bt136 => (if (!(bt124.2.1 == 0) || (!(bt124.2.2 == 0))) = true then (chancerylaw19_awake.j0 k bt124.1 bt136.1 true) else (if (!(bt130.2.1 == 290) || (!(bt130.2.2 == 2))) = true then (chancerylaw19_awake.j0 k bt124.1 bt136.1 true) else (if (!(bt136.2.1 == 0) || (!(bt136.2.2 == 0))) = true then (chancerylaw19_awake.j0 k bt124.1 bt136.1 true) else (if (bt124.1.length : Int) = 5 then (chancerylaw19_awake.j0 k bt124.1 bt136.1 ((bt136.1.length : Int) != 2)) else (chancerylaw19_awake.j0 k bt124.1 bt136.1 true)))))))) = some r := h
  clear h
  replace H := Option.bind_eq_some_iff.mp H
  obtain ⟨⟨t124, t127, t128⟩, A10, H⟩ := H
  replace H : ((lexer_Tokens.f k (⟨#[97, 32, 35, 32, 98]⟩ : ByteArray)).bind fun bt130 => ((lexer_Tokens.f k (⟨#[120, 39, 48, 48, 102, 102, 39, 32, 49, 46, 53, 48]⟩ : ByteArray)).bind fun bt136 => (if (!(t127 == 0) || (!(t128 == 0))) = true then (chancerylaw19_awake.j0 k t124 bt136.1 true) else (if (!(bt130.2.1 == 290) || (!(bt130.2.2 == 2))) = true then (chancerylaw19_awake.j0 k t124 bt136.1 true) else (if (!(bt136.2.1 == 0) || (!(bt136.2.2 == 0))) = true then (chancerylaw19_awake.j0 k t124 bt136.1 true) else (if (t124.length : Int) = 5 then (chancerylaw19_awake.j0 k t124 bt136.1 ((bt136.1.length : Int) != 2)) else (chancerylaw19_awake.j0 k t124 bt136.1 true))))))) = some r := H
  have A1 := Aside0.mk A10
  clear A10
  replace H := Option.bind_eq_some_iff.mp H
  obtain ⟨⟨t130, t133, t134⟩, A20, H⟩ := H
  replace H : ((lexer_Tokens.f k (⟨#[120, 39, 48, 48, 102, 102, 39, 32, 49, 46, 53, 48]⟩ : ByteArray)).bind fun bt136 => (if (!(t127 == 0) || (!(t128 == 0))) = true then (chancerylaw19_awake.j0 k t124 bt136.1 true) else (if (!(t133 == 290) || (!(t134 == 2))) = true then (chancerylaw19_awake.j0 k t124 bt136.1 true) else (if (!(bt136.2.1 == 0) || (!(bt136.2.2 == 0))) = true then (chancerylaw19_awake.j0 k t124 bt136.1 true) else (if (t124.length : Int) = 5 then (chancerylaw19_awake.j0 k t124 bt136.1 ((bt136.1.length : Int) != 2)) else (chancerylaw19_awake.j0 k t124 bt136.1 true)))))) = some r := H
  have A2 := Aside0.mk A20
  clear A20
  replace H := Option.bind_eq_some_iff.mp H
  obtain ⟨⟨t136, t139, t140⟩, A30, H⟩ := H
  replace H : (if (!(t127 == 0) || (!(t128 == 0))) = true then (chancerylaw19_awake.j0 k t124 t136 true) else (if (!(t133 == 290) || (!(t134 == 2))) = true then (chancerylaw19_awake.j0 k t124 t136 true) else (if (!(t139 == 0) || (!(t140 == 0))) = true then (chancerylaw19_awake.j0 k t124 t136 true) else (if (t124.length : Int) = 5 then (chancerylaw19_awake.j0 k t124 t136 ((t136.length : Int) != 2)) else (chancerylaw19_awake.j0 k t124 t136 true))))) = some r := H
  have A3 := Aside0.mk A30
  clear A30
  have HC4 := Aside0.mk H
  clear H
  go_enter Tryd.func5, Tryd.ntmps5
  go_upto_region 4 with (first | ((with_reducible refine gate_callee (f := 4) rfl ?_); refine goesL_ (some 8) rfl rfl Tryd.func4 (by kernel_rfl) rfl #[.string (⟨#[97, 46, 98, 60, 62, 39, 105, 116, 39, 39, 115, 39, 32, 45, 45, 32, 120]⟩ : ByteArray)] rfl (by (try simp only [List.map_toArray, List.map_cons, List.map_nil]); first | done | rfl | (simp only [List.length_drop, List.length_take]; rfl)) ?_; (with_reducible refine (lexer_Tokens.calls k (⟨#[97, 46, 98, 60, 62, 39, 105, 116, 39, 39, 115, 39, 32, 45, 45, 32, 120]⟩ : ByteArray) t124 t127 t128 _ A1.out).mono ?_); rintro e w5 ⟨v125, rfl, ho0, hb⟩; refine ⟨_, rfl, ?_⟩; have n0_ := Aside0.mk (Kd.R_lower ho0 (below_size (by repeat (first | (with_reducible first | exact HB.out | apply below_alloc | apply pw_below_drewN | apply below_drew1) | exact HB.out)))); have n1_ := Aside0.mk (below_step (by repeat (first | (with_reducible first | exact HB.out | apply below_alloc | apply pw_below_drewN | apply below_drew1) | exact HB.out)) hb); clear HB; have HO126 := n0_; have HB := n1_; clear n0_ n1_; (try clear hb); (try clear hb2); (try clear hk); (try clear hi); (try clear ho0)) | ((with_reducible refine gate_dst (N := 2) rfl ?_); (try (refine gate_guard (by rfl) ?_; dsimp only)); refine box_event ?hg (N := 2) ?hd (cs := #[.int .i64 0, .int .i64 0]) (t := 25) ?hr ?_; (case hd => rfl); (case hg => rfl); (case hr => first | (go_simp; done) | (go_simp; rfl)); intro gb129 hg w6 hbox hb; have n0_ := Aside0.mk (Kd.R_below (by (with_reducible repeat (first | apply Kd.R_alloc | apply Kd.R_drewN | apply Kd.R_drew)); exact HO126.out) hb); have n1_ := Aside0.mk (below_step (by repeat (first | (with_reducible first | exact HB.out | apply below_alloc | apply pw_below_drewN | apply below_drew1) | exact HB.out)) hb); have n2_ := Aside0.mk (hbox); have n3_ := Aside0.mk ((by rw [hg]; exact (below_size (by repeat (first | (with_reducible first | exact HB.out | apply below_alloc | apply pw_below_drewN | apply below_drew1) | exact HB.out))) : w.heap.size ≤ gb129)); have n4_ := Aside0.mk ((by rw [hg]; exact (below_size (by repeat (first | (with_reducible first | exact HB.out | apply below_alloc | apply pw_below_drewN | apply below_drew1) | exact HB.out))) : w.heap.size ≤ gb129)); clear HO126; clear HB; have HO126 := n0_; have HB := n1_; have BK129 := n2_; have GW129 := n3_; have GE129 := n4_; clear n0_ n1_ n2_ n3_ n4_; clear hb hbox hg; have hcz7_0 : w6.cell? ⟨gb129, 0, none⟩ = some (.int .i64 0) := (blk_cell BK129.out 0).trans rfl; have hcz7_1 : w6.cell? ⟨gb129, 1, none⟩ = some (.int .i64 0) := (blk_cell BK129.out 1).trans rfl; have hfz7_0 := blk_frozen BK129.out 0; have hfz7_1 := blk_frozen BK129.out 1) | ((with_reducible refine gate_callee (f := 4) rfl ?_); refine goesL_ (some 12) rfl rfl Tryd.func4 (by kernel_rfl) rfl #[.string (⟨#[97, 32, 35, 32, 98]⟩ : ByteArray)] rfl (by (try simp only [List.map_toArray, List.map_cons, List.map_nil]); first | done | rfl | (simp only [List.length_drop, List.length_take]; rfl)) ?_; (with_reducible refine (lexer_Tokens.calls k (⟨#[97, 32, 35, 32, 98]⟩ : ByteArray) t130 t133 t134 _ A2.out).mono ?_); rintro e w8 ⟨v131, rfl, ho0, hb⟩; refine ⟨_, rfl, ?_⟩; have n0_ := Aside0.mk (Kd.R_elder' (by (with_reducible repeat (first | apply Kd.R_alloc | apply Kd.R_drewN | apply Kd.R_drew)); exact (Kd.R_mono (Kd.R_far (p := ⟨gb129, 1, none⟩) (Kd.R_far (p := ⟨gb129, 0, none⟩) (Kd.R_types HO126.out BK129.out (by decide)) (fun _ hk => hk.2) (.int .i64 t127)) (fun _ hk => hk.2) (.int .i64 t128)) (fun _ h_ => h_.1))) (Kd.R_base ho0) hb); have n1_ := Aside0.mk (Kd.R_lower (Kd.R_new' ho0 (Kd.R_lt (by (with_reducible repeat (first | apply Kd.R_alloc | apply Kd.R_drewN | apply Kd.R_drew)); exact (Kd.R_mono (Kd.R_far (p := ⟨gb129, 1, none⟩) (Kd.R_far (p := ⟨gb129, 0, none⟩) (Kd.R_types HO126.out BK129.out (by decide)) (fun _ hk => hk.2) (.int .i64 t127)) (fun _ hk => hk.2) (.int .i64 t128)) (fun _ h_ => h_.1))))) (below_size (by repeat (first | (with_reducible first | exact HB.out | apply below_alloc | apply pw_below_drewN | apply below_drew1 | refine below_set ?_ GE129.out) | exact HB.out)))); have n2_ := Aside0.mk (blk_below (g := gb129) (o := .cells #[.int .i64 t127, .int .i64 t128] 25 (0, 0)) (by (with_reducible repeat (first | refine blk_drewN ?_ _ | refine blk_drew ?_ | refine blk_alloc ?_ _)); refine blk_put (cs := #[.int .i64 t127, .int .i64 0]) ?_ 1 _ rfl; (with_reducible repeat (first | refine blk_drewN ?_ _ | refine blk_drew ?_ | refine blk_alloc ?_ _)); refine blk_put (cs := #[.int .i64 0, .int .i64 0]) ?_ 0 _ rfl; (with_reducible repeat (first | refine blk_drewN ?_ _ | refine blk_drew ?_ | refine blk_alloc ?_ _)); exact BK129.out) hb); have n3_ := Aside0.mk (below_step (by repeat (first | (with_reducible first | exact HB.out | apply below_alloc | apply pw_below_drewN | apply below_drew1 | refine below_set ?_ GE129.out) | exact HB.out)) hb); clear HO126; clear BK129; clear HB; have HO126 := n0_; have HO132 := n1_; have BK129 := n2_; have HB := n3_; clear n0_ n1_ n2_ n3_; (try clear hb); (try clear hb2); (try clear hk); (try clear hi); (try clear ho0)) | ((with_reducible refine gate_dst (N := 4) rfl ?_); (try (refine gate_guard (by rfl) ?_; dsimp only)); refine box_event ?hg (N := 4) ?hd (cs := #[.int .i64 0, .int .i64 0]) (t := 25) ?hr ?_; (case hd => rfl); (case hg => rfl); (case hr => first | (go_simp; done) | (go_simp; rfl)); intro gb135 hg w9 hbox hb; have n0_ := Aside0.mk (Kd.R_below (by (with_reducible repeat (first | apply Kd.R_alloc | apply Kd.R_drewN | apply Kd.R_drew)); exact HO126.out) hb); have n1_ := Aside0.mk (Kd.R_below (by (with_reducible repeat (first | apply Kd.R_alloc | apply Kd.R_drewN | apply Kd.R_drew)); exact HO132.out) hb); have n2_ := Aside0.mk (blk_below (g := gb129) (o := .cells #[.int .i64 t127, .int .i64 t128] 25 (0, 0)) (by (with_reducible repeat (first | refine blk_drewN ?_ _ | refine blk_drew ?_ | refine blk_alloc ?_ _)); exact BK129.out) hb); have n3_ := Aside0.mk (below_step (by repeat (first | (with_reducible first | exact HB.out | apply below_alloc | apply pw_below_drewN | apply below_drew1 | refine below_set ?_ GE129.out) | exact HB.out)) hb); have n4_ := Aside0.mk (hbox); have n5_ := Aside0.mk ((by rw [hg]; exact (below_size (by repeat (first | (with_reducible first | exact HB.out | apply below_alloc | apply pw_below_drewN | apply below_drew1 | refine below_set ?_ GE129.out) | exact HB.out))) : w.heap.size ≤ gb135)); have n6_ := Aside0.mk ((by rw [hg]; exact (below_size (by repeat (first | (with_reducible first | exact HB.out | apply below_alloc | apply pw_below_drewN | apply below_drew1 | refine below_set ?_ GE129.out) | exact HB.out))) : w.heap.size ≤ gb135)); have n7_ := Aside0.mk ((by rw [hg]; exact Nat.ne_of_lt (blk_lt (g := gb129) (o := .cells #[.int .i64 t127, .int .i64 t128] 25 (0, 0)) (by (with_reducible repeat (first | refine blk_drewN ?_ _ | refine blk_drew ?_ | refine blk_alloc ?_ _)); exact BK129.out)) : gb129 ≠ gb135)); have n8_ := Aside0.mk ((by rw [hg]; exact Nat.ne_of_gt (blk_lt (g := gb129) (o := .cells #[.int .i64 t127, .int .i64 t128] 25 (0, 0)) (by (with_reducible repeat (first | refine blk_drewN ?_ _ | refine blk_drew ?_ | refine blk_alloc ?_ _)); exact BK129.out)) : gb135 ≠ gb129)); clear HO126; clear HO132; clear BK129; clear HB; have HO126 := n0_; have HO132 := n1_; have BK129 := n2_; have HB := n3_; have BK135 := n4_; have GW135 := n5_; have GE135 := n6_; have NB129_135 := n7_; have NB135_129 := n8_; clear n0_ n1_ n2_ n3_ n4_ n5_ n6_ n7_ n8_; clear hb hbox hg; have hnb10 := NB135_129.out; have hnc10 := NB129_135.out; have hcz11_0 : w9.cell? ⟨gb135, 0, none⟩ = some (.int .i64 0) := (blk_cell BK135.out 0).trans rfl; have hcz11_1 : w9.cell? ⟨gb135, 1, none⟩ = some (.int .i64 0) := (blk_cell BK135.out 1).trans rfl; have hfz11_0 := blk_frozen BK135.out 0; have hfz11_1 := blk_frozen BK135.out 1) | ((with_reducible refine gate_callee (f := 4) rfl ?_); refine goesL_ (some 16) rfl rfl Tryd.func4 (by kernel_rfl) rfl #[.string (⟨#[120, 39, 48, 48, 102, 102, 39, 32, 49, 46, 53, 48]⟩ : ByteArray)] rfl (by (try simp only [List.map_toArray, List.map_cons, List.map_nil]); first | done | rfl | (simp only [List.length_drop, List.length_take]; rfl)) ?_; (with_reducible refine (lexer_Tokens.calls k (⟨#[120, 39, 48, 48, 102, 102, 39, 32, 49, 46, 53, 48]⟩ : ByteArray) t136 t139 t140 _ A3.out).mono ?_); rintro e w12 ⟨v137, rfl, ho0, hb⟩; refine ⟨_, rfl, ?_⟩; have n0_ := Aside0.mk (Kd.R_elder' (by (with_reducible repeat (first | apply Kd.R_alloc | apply Kd.R_drewN | apply Kd.R_drew)); exact (Kd.R_mono (Kd.R_far (p := ⟨gb135, 1, none⟩) (Kd.R_far (p := ⟨gb135, 0, none⟩) (Kd.R_types HO126.out BK135.out (by decide)) (fun _ hk => hk.2) (.int .i64 t133)) (fun _ hk => hk.2) (.int .i64 t134)) (fun _ h_ => h_.1))) (Kd.R_base ho0) hb); have n1_ := Aside0.mk (Kd.R_elder' (by (with_reducible repeat (first | apply Kd.R_alloc | apply Kd.R_drewN | apply Kd.R_drew)); exact (Kd.R_mono (Kd.R_far (p := ⟨gb135, 1, none⟩) (Kd.R_far (p := ⟨gb135, 0, none⟩) (Kd.R_types HO132.out BK135.out (by decide)) (fun _ hk => hk.2) (.int .i64 t133)) (fun _ hk => hk.2) (.int .i64 t134)) (fun _ h_ => h_.1))) (Kd.R_base ho0) hb); have n2_ := Aside0.mk (Kd.R_lower (Kd.R_new' (Kd.R_new' ho0 (Kd.R_lt (by (with_reducible repeat (first | apply Kd.R_alloc | apply Kd.R_drewN | apply Kd.R_drew)); exact (Kd.R_mono (Kd.R_far (p := ⟨gb135, 1, none⟩) (Kd.R_far (p := ⟨gb135, 0, none⟩) (Kd.R_types HO126.out BK135.out (by decide)) (fun _ hk => hk.2) (.int .i64 t133)) (fun _ hk => hk.2) (.int .i64 t134)) (fun _ h_ => h_.1))))) (Kd.R_lt (by (with_reducible repeat (first | apply Kd.R_alloc | apply Kd.R_drewN | apply Kd.R_drew)); exact (Kd.R_mono (Kd.R_far (p := ⟨gb135, 1, none⟩) (Kd.R_far (p := ⟨gb135, 0, none⟩) (Kd.R_types HO132.out BK135.out (by decide)) (fun _ hk => hk.2) (.int .i64 t133)) (fun _ hk => hk.2) (.int .i64 t134)) (fun _ h_ => h_.1))))) (below_size (by repeat (first | (with_reducible first | exact HB.out | apply below_alloc | apply pw_below_drewN | apply below_drew1 | refine below_set ?_ GE129.out | refine below_set ?_ GE135.out) | exact HB.out)))); have n3_ := Aside0.mk (blk_below (g := gb129) (o := .cells #[.int .i64 t127, .int .i64 t128] 25 (0, 0)) (by (with_reducible repeat (first | refine blk_drewN ?_ _ | refine blk_drew ?_ | refine blk_alloc ?_ _)); refine blk_far ?_ NB129_135.out _; (with_reducible repeat (first | refine blk_drewN ?_ _ | refine blk_drew ?_ | refine blk_alloc ?_ _)); refine blk_far ?_ NB129_135.out _; (with_reducible repeat (first | refine blk_drewN ?_ _ | refine blk_drew ?_ | refine blk_alloc ?_ _)); exact BK129.out) hb); have n4_ := Aside0.mk (blk_below (g := gb135) (o := .cells #[.int .i64 t133, .int .i64 t134] 25 (0, 0)) (by (with_reducible repeat (first | refine blk_drewN ?_ _ | refine blk_drew ?_ | refine blk_alloc ?_ _)); refine blk_put (cs := #[.int .i64 t133, .int .i64 0]) ?_ 1 _ rfl; (with_reducible repeat (first | refine blk_drewN ?_ _ | refine blk_drew ?_ | refine blk_alloc ?_ _)); refine blk_put (cs := #[.int .i64 0, .int .i64 0]) ?_ 0 _ rfl; (with_reducible repeat (first | refine blk_drewN ?_ _ | refine blk_drew ?_ | refine blk_alloc ?_ _)); exact BK135.out) hb); have n5_ := Aside0.mk (below_step (by repeat (first | (with_reducible first | exact HB.out | apply below_alloc | apply pw_below_drewN | apply below_drew1 | refine below_set ?_ GE129.out | refine below_set ?_ GE135.out) | exact HB.out)) hb); clear HO126; clear HO132; clear BK129; clear BK135; clear HB; have HO126 := n0_; have HO132 := n1_; have HO138 := n2_; have BK129 := n3_; have BK135 := n4_; have HB := n5_; clear n0_ n1_ n2_ n3_ n4_ n5_; (try clear hb); (try clear hb2); (try clear hk); (try clear hi); (try clear ho0)) | ((with_reducible refine gate_dst (N := 6) rfl ?_); (try (refine gate_guard (by rfl) ?_; dsimp only)); refine box_event ?hg (N := 6) ?hd (cs := #[.int .i64 0, .int .i64 0]) (t := 25) ?hr ?_; (case hd => rfl); (case hg => rfl); (case hr => first | (go_simp; done) | (go_simp; rfl)); intro gb141 hg w13 hbox hb; have n0_ := Aside0.mk (Kd.R_below (by (with_reducible repeat (first | apply Kd.R_alloc | apply Kd.R_drewN | apply Kd.R_drew)); exact HO126.out) hb); have n1_ := Aside0.mk (Kd.R_below (by (with_reducible repeat (first | apply Kd.R_alloc | apply Kd.R_drewN | apply Kd.R_drew)); exact HO132.out) hb); have n2_ := Aside0.mk (Kd.R_below (by (with_reducible repeat (first | apply Kd.R_alloc | apply Kd.R_drewN | apply Kd.R_drew)); exact HO138.out) hb); have n3_ := Aside0.mk (blk_below (g := gb129) (o := .cells #[.int .i64 t127, .int .i64 t128] 25 (0, 0)) (by (with_reducible repeat (first | refine blk_drewN ?_ _ | refine blk_drew ?_ | refine blk_alloc ?_ _)); exact BK129.out) hb); have n4_ := Aside0.mk (blk_below (g := gb135) (o := .cells #[.int .i64 t133, .int .i64 t134] 25 (0, 0)) (by (with_reducible repeat (first | refine blk_drewN ?_ _ | refine blk_drew ?_ | refine blk_alloc ?_ _)); exact BK135.out) hb); have n5_ := Aside0.mk (below_step (by repeat (first | (with_reducible first | exact HB.out | apply below_alloc | apply pw_below_drewN | apply below_drew1 | refine below_set ?_ GE129.out | refine below_set ?_ GE135.out) | exact HB.out)) hb); have n6_ := Aside0.mk (hbox); have n7_ := Aside0.mk ((by rw [hg]; exact (below_size (by repeat (first | (with_reducible first | exact HB.out | apply below_alloc | apply pw_below_drewN | apply below_drew1 | refine below_set ?_ GE129.out | refine below_set ?_ GE135.out) | exact HB.out))) : w.heap.size ≤ gb141)); have n8_ := Aside0.mk ((by rw [hg]; exact (below_size (by repeat (first | (with_reducible first | exact HB.out | apply below_alloc | apply pw_below_drewN | apply below_drew1 | refine below_set ?_ GE129.out | refine below_set ?_ GE135.out) | exact HB.out))) : w.heap.size ≤ gb141)); have n9_ := Aside0.mk ((by rw [hg]; exact Nat.ne_of_lt (blk_lt (g := gb129) (o := .cells #[.int .i64 t127, .int .i64 t128] 25 (0, 0)) (by (with_reducible repeat (first | refine blk_drewN ?_ _ | refine blk_drew ?_ | refine blk_alloc ?_ _)); exact BK129.out)) : gb129 ≠ gb141)); have n10_ := Aside0.mk ((by rw [hg]; exact Nat.ne_of_gt (blk_lt (g := gb129) (o := .cells #[.int .i64 t127, .int .i64 t128] 25 (0, 0)) (by (with_reducible repeat (first | refine blk_drewN ?_ _ | refine blk_drew ?_ | refine blk_alloc ?_ _)); exact BK129.out)) : gb141 ≠ gb129)); have n11_ := Aside0.mk ((by rw [hg]; exact Nat.ne_of_lt (blk_lt (g := gb135) (o := .cells #[.int .i64 t133, .int .i64 t134] 25 (0, 0)) (by (with_reducible repeat (first | refine blk_drewN ?_ _ | refine blk_drew ?_ | refine blk_alloc ?_ _)); exact BK135.out)) : gb135 ≠ gb141)); have n12_ := Aside0.mk ((by rw [hg]; exact Nat.ne_of_gt (blk_lt (g := gb135) (o := .cells #[.int .i64 t133, .int .i64 t134] 25 (0, 0)) (by (with_reducible repeat (first | refine blk_drewN ?_ _ | refine blk_drew ?_ | refine blk_alloc ?_ _)); exact BK135.out)) : gb141 ≠ gb135)); clear HO126; clear HO132; clear HO138; clear BK129; clear BK135; clear HB; have HO126 := n0_; have HO132 := n1_; have HO138 := n2_; have BK129 := n3_; have BK135 := n4_; have HB := n5_; have BK141 := n6_; have GW141 := n7_; have GE141 := n8_; have NB129_141 := n9_; have NB141_129 := n10_; have NB135_141 := n11_; have NB141_135 := n12_; clear n0_ n1_ n2_ n3_ n4_ n5_ n6_ n7_ n8_ n9_ n10_ n11_ n12_; clear hb hbox hg; have hnb14 := NB141_129.out; have hnc14 := NB129_141.out; have hnb15 := NB141_135.out; have hnc15 := NB135_141.out; have hcz16_0 : w13.cell? ⟨gb141, 0, none⟩ = some (.int .i64 0) := (blk_cell BK141.out 0).trans rfl; have hcz16_1 : w13.cell? ⟨gb141, 1, none⟩ = some (.int .i64 0) := (blk_cell BK141.out 1).trans rfl; have hfz16_0 := blk_frozen BK141.out 0; have hfz16_1 := blk_frozen BK141.out 1))
  (try simp only [Act.put, List.setIfInBounds_toArray, List.set_cons_zero, List.set_cons_succ])
  go_cut [41] (fun v41 wc => ∃ (kq : Nat) (x41_3 : Bool), v41 = .bool x41_3 ∧ Aside0 (chancerylaw19_awake.j0 kq t124 t136 x41_3 = some r) ∧ Aside0 (kq ≤ k) ∧ Aside0 (Kd.R k32 32 wc w.heap.size (fun k_ => some k_ ≠ (v137 : Value).ownBlock) v125 t124) ∧ Aside0 (Kd.R k32 32 wc w.heap.size (fun k_ => some k_ ≠ (v125 : Value).ownBlock) v137 t136) ∧ Aside0 (wc.heap[gb129]? = some (.cells #[.int .i64 t127, .int .i64 t128] 25 (0, 0))) ∧ Aside0 (wc.heap[gb135]? = some (.cells #[.int .i64 t133, .int .i64 t134] 25 (0, 0))) ∧ Aside0 (wc.heap[gb141]? = some (.cells #[.int .i64 t139, .int .i64 t140] 25 (0, 0))) ∧ Aside0 (Below w.heap.size w wc))
  case first =>
    have H := HC4.out
    clear HC4
    by_cases c17 : (!(t127 == 0) || (!(t128 == 0))) = true
    · rw [if_pos c17] at H
      have c17b0 : (!(t127 == 0) || (!(t128 == 0))) = true := c17
      clear c17
      (first | rw [c17b0] | (simp only [i64_w, i32_w]; rw [c17b0]) | skip)
      have H' := Aside0.mk H
      clear H
      have hnb18 := NB129_135.out
      have hnc18 := NB135_129.out
      have hnb19 := NB129_141.out
      have hnc19 := NB141_129.out
      have hcz20_0 : w13.cell? ⟨gb129, 0, none⟩ = some (.int .i64 t127) := (blk_cell BK129.out 0).trans rfl
      have hcz20_1 : w13.cell? ⟨gb129, 1, none⟩ = some (.int .i64 t128) := (blk_cell BK129.out 1).trans rfl
      have hfz20_0 := blk_frozen BK129.out 0
      have hfz20_1 := blk_frozen BK129.out 1
      go_wp2
      go_meet
      case rel => exact ⟨_, (true), (by first | rfl | (simp; done) | (simp [*]; done)), H', ⟨by first | omega | exact Nat.le_refl _⟩, ⟨by (with_reducible repeat (first | apply Kd.R_alloc | apply Kd.R_drewN | apply Kd.R_drew)); exact Kd.R_mono (Kd.R_far (p := ⟨gb141, 1, none⟩) (Kd.R_far (p := ⟨gb141, 0, none⟩) (Kd.R_types HO126.out BK141.out (by decide)) (fun _ hk => hk.2) (.int .i64 t139)) (fun _ hk => hk.2) (.int .i64 t140)) (fun _ hk => hk.1.2)⟩, ⟨by (with_reducible repeat (first | apply Kd.R_alloc | apply Kd.R_drewN | apply Kd.R_drew)); exact Kd.R_mono (Kd.R_far (p := ⟨gb141, 1, none⟩) (Kd.R_far (p := ⟨gb141, 0, none⟩) (Kd.R_types HO138.out BK141.out (by decide)) (fun _ hk => hk.2) (.int .i64 t139)) (fun _ hk => hk.2) (.int .i64 t140)) (fun _ hk => hk.1.1.2)⟩, ⟨by (with_reducible repeat (first | refine blk_drewN ?_ _ | refine blk_drew ?_ | refine blk_alloc ?_ _)); refine blk_far ?_ NB129_141.out _; (with_reducible repeat (first | refine blk_drewN ?_ _ | refine blk_drew ?_ | refine blk_alloc ?_ _)); refine blk_far ?_ NB129_141.out _; (with_reducible repeat (first | refine blk_drewN ?_ _ | refine blk_drew ?_ | refine blk_alloc ?_ _)); exact BK129.out⟩, ⟨by (with_reducible repeat (first | refine blk_drewN ?_ _ | refine blk_drew ?_ | refine blk_alloc ?_ _)); refine blk_far ?_ NB135_141.out _; (with_reducible repeat (first | refine blk_drewN ?_ _ | refine blk_drew ?_ | refine blk_alloc ?_ _)); refine blk_far ?_ NB135_141.out _; (with_reducible repeat (first | refine blk_drewN ?_ _ | refine blk_drew ?_ | refine blk_alloc ?_ _)); exact BK135.out⟩, ⟨by (with_reducible repeat (first | refine blk_drewN ?_ _ | refine blk_drew ?_ | refine blk_alloc ?_ _)); refine blk_put (cs := #[.int .i64 t139, .int .i64 0]) ?_ 1 _ rfl; (with_reducible repeat (first | refine blk_drewN ?_ _ | refine blk_drew ?_ | refine blk_alloc ?_ _)); refine blk_put (cs := #[.int .i64 0, .int .i64 0]) ?_ 0 _ rfl; (with_reducible repeat (first | refine blk_drewN ?_ _ | refine blk_drew ?_ | refine blk_alloc ?_ _)); exact BK141.out⟩, ⟨by repeat (first | (with_reducible first | exact HB.out | apply below_alloc | apply pw_below_drewN | apply below_drew1 | refine below_set ?_ GE129.out | refine below_set ?_ GE135.out | refine below_set ?_ GE141.out) | exact HB.out)⟩⟩
    · rw [if_neg c17] at H
      have c17b0 : (!(t127 == 0) || (!(t128 == 0))) = false := by simpa using c17
      clear c17
      (first | rw [c17b0] | (simp only [i64_w, i32_w]; rw [c17b0]) | skip)
      by_cases c21 : (!(t133 == 290) || (!(t134 == 2))) = true
      · rw [if_pos c21] at H
        have c21b0 : (!(t133 == 290) || (!(t134 == 2))) = true := c21
        clear c21
        have H' := Aside0.mk H
        clear H
        have hnb22 := NB129_135.out
        have hnc22 := NB135_129.out
        have hnb23 := NB129_141.out
        have hnc23 := NB141_129.out
        have hcz24_0 : w13.cell? ⟨gb129, 0, none⟩ = some (.int .i64 t127) := (blk_cell BK129.out 0).trans rfl
        have hcz24_1 : w13.cell? ⟨gb129, 1, none⟩ = some (.int .i64 t128) := (blk_cell BK129.out 1).trans rfl
        have hfz24_0 := blk_frozen BK129.out 0
        have hfz24_1 := blk_frozen BK129.out 1
        have hnb25 := NB135_141.out
        have hnc25 := NB141_135.out
        have hcz26_0 : w13.cell? ⟨gb135, 0, none⟩ = some (.int .i64 t133) := (blk_cell BK135.out 0).trans rfl
        have hcz26_1 : w13.cell? ⟨gb135, 1, none⟩ = some (.int .i64 t134) := (blk_cell BK135.out 1).trans rfl
        have hfz26_0 := blk_frozen BK135.out 0
        have hfz26_1 := blk_frozen BK135.out 1
        go_wp2
        go_meet
        case rel => exact ⟨_, (true), (by first | rfl | (simp; done) | (simp [*]; done)), H', ⟨by first | omega | exact Nat.le_refl _⟩, ⟨by (with_reducible repeat (first | apply Kd.R_alloc | apply Kd.R_drewN | apply Kd.R_drew)); exact Kd.R_mono (Kd.R_far (p := ⟨gb141, 1, none⟩) (Kd.R_far (p := ⟨gb141, 0, none⟩) (Kd.R_types HO126.out BK141.out (by decide)) (fun _ hk => hk.2) (.int .i64 t139)) (fun _ hk => hk.2) (.int .i64 t140)) (fun _ hk => hk.1.2)⟩, ⟨by (with_reducible repeat (first | apply Kd.R_alloc | apply Kd.R_drewN | apply Kd.R_drew)); exact Kd.R_mono (Kd.R_far (p := ⟨gb141, 1, none⟩) (Kd.R_far (p := ⟨gb141, 0, none⟩) (Kd.R_types HO138.out BK141.out (by decide)) (fun _ hk => hk.2) (.int .i64 t139)) (fun _ hk => hk.2) (.int .i64 t140)) (fun _ hk => hk.1.1.2)⟩, ⟨by (with_reducible repeat (first | refine blk_drewN ?_ _ | refine blk_drew ?_ | refine blk_alloc ?_ _)); refine blk_far ?_ NB129_141.out _; (with_reducible repeat (first | refine blk_drewN ?_ _ | refine blk_drew ?_ | refine blk_alloc ?_ _)); refine blk_far ?_ NB129_141.out _; (with_reducible repeat (first | refine blk_drewN ?_ _ | refine blk_drew ?_ | refine blk_alloc ?_ _)); exact BK129.out⟩, ⟨by (with_reducible repeat (first | refine blk_drewN ?_ _ | refine blk_drew ?_ | refine blk_alloc ?_ _)); refine blk_far ?_ NB135_141.out _; (with_reducible repeat (first | refine blk_drewN ?_ _ | refine blk_drew ?_ | refine blk_alloc ?_ _)); refine blk_far ?_ NB135_141.out _; (with_reducible repeat (first | refine blk_drewN ?_ _ | refine blk_drew ?_ | refine blk_alloc ?_ _)); exact BK135.out⟩, ⟨by (with_reducible repeat (first | refine blk_drewN ?_ _ | refine blk_drew ?_ | refine blk_alloc ?_ _)); refine blk_put (cs := #[.int .i64 t139, .int .i64 0]) ?_ 1 _ rfl; (with_reducible repeat (first | refine blk_drewN ?_ _ | refine blk_drew ?_ | refine blk_alloc ?_ _)); refine blk_put (cs := #[.int .i64 0, .int .i64 0]) ?_ 0 _ rfl; (with_reducible repeat (first | refine blk_drewN ?_ _ | refine blk_drew ?_ | refine blk_alloc ?_ _)); exact BK141.out⟩, ⟨by repeat (first | (with_reducible first | exact HB.out | apply below_alloc | apply pw_below_drewN | apply below_drew1 | refine below_set ?_ GE129.out | refine below_set ?_ GE135.out | refine below_set ?_ GE141.out) | exact HB.out)⟩⟩
      · rw [if_neg c21] at H
        have c21b0 : (!(t133 == 290) || (!(t134 == 2))) = false := by simpa using c21
        clear c21
        by_cases c27 : (!(t139 == 0) || (!(t140 == 0))) = true
        · rw [if_pos c27] at H
          have c27b0 : (!(t139 == 0) || (!(t140 == 0))) = true := c27
          clear c27
          have H' := Aside0.mk H
          clear H
          have hnb28 := NB129_135.out
          have hnc28 := NB135_129.out
          have hnb29 := NB129_141.out
          have hnc29 := NB141_129.out
          have hcz30_0 : w13.cell? ⟨gb129, 0, none⟩ = some (.int .i64 t127) := (blk_cell BK129.out 0).trans rfl
          have hcz30_1 : w13.cell? ⟨gb129, 1, none⟩ = some (.int .i64 t128) := (blk_cell BK129.out 1).trans rfl
          have hfz30_0 := blk_frozen BK129.out 0
          have hfz30_1 := blk_frozen BK129.out 1
          have hnb31 := NB135_141.out
          have hnc31 := NB141_135.out
          have hcz32_0 : w13.cell? ⟨gb135, 0, none⟩ = some (.int .i64 t133) := (blk_cell BK135.out 0).trans rfl
          have hcz32_1 : w13.cell? ⟨gb135, 1, none⟩ = some (.int .i64 t134) := (blk_cell BK135.out 1).trans rfl
          have hfz32_0 := blk_frozen BK135.out 0
          have hfz32_1 := blk_frozen BK135.out 1
          have hcz33_0 : w13.cell? ⟨gb141, 0, none⟩ = some (.int .i64 0) := (blk_cell BK141.out 0).trans rfl
          have hcz33_1 : w13.cell? ⟨gb141, 1, none⟩ = some (.int .i64 0) := (blk_cell BK141.out 1).trans rfl
          have hfz33_0 := blk_frozen BK141.out 0
          have hfz33_1 := blk_frozen BK141.out 1
          go_wp2
          go_meet
          case rel => exact ⟨_, (true), (by first | rfl | (simp; done) | (simp [*]; done)), H', ⟨by first | omega | exact Nat.le_refl _⟩, ⟨by (with_reducible repeat (first | apply Kd.R_alloc | apply Kd.R_drewN | apply Kd.R_drew)); exact Kd.R_mono (Kd.R_far (p := ⟨gb141, 1, none⟩) (Kd.R_far (p := ⟨gb141, 0, none⟩) (Kd.R_types HO126.out BK141.out (by decide)) (fun _ hk => hk.2) (.int .i64 t139)) (fun _ hk => hk.2) (.int .i64 t140)) (fun _ hk => hk.1.2)⟩, ⟨by (with_reducible repeat (first | apply Kd.R_alloc | apply Kd.R_drewN | apply Kd.R_drew)); exact Kd.R_mono (Kd.R_far (p := ⟨gb141, 1, none⟩) (Kd.R_far (p := ⟨gb141, 0, none⟩) (Kd.R_types HO138.out BK141.out (by decide)) (fun _ hk => hk.2) (.int .i64 t139)) (fun _ hk => hk.2) (.int .i64 t140)) (fun _ hk => hk.1.1.2)⟩, ⟨by (with_reducible repeat (first | refine blk_drewN ?_ _ | refine blk_drew ?_ | refine blk_alloc ?_ _)); refine blk_far ?_ NB129_141.out _; (with_reducible repeat (first | refine blk_drewN ?_ _ | refine blk_drew ?_ | refine blk_alloc ?_ _)); refine blk_far ?_ NB129_141.out _; (with_reducible repeat (first | refine blk_drewN ?_ _ | refine blk_drew ?_ | refine blk_alloc ?_ _)); exact BK129.out⟩, ⟨by (with_reducible repeat (first | refine blk_drewN ?_ _ | refine blk_drew ?_ | refine blk_alloc ?_ _)); refine blk_far ?_ NB135_141.out _; (with_reducible repeat (first | refine blk_drewN ?_ _ | refine blk_drew ?_ | refine blk_alloc ?_ _)); refine blk_far ?_ NB135_141.out _; (with_reducible repeat (first | refine blk_drewN ?_ _ | refine blk_drew ?_ | refine blk_alloc ?_ _)); exact BK135.out⟩, ⟨by (with_reducible repeat (first | refine blk_drewN ?_ _ | refine blk_drew ?_ | refine blk_alloc ?_ _)); refine blk_put (cs := #[.int .i64 t139, .int .i64 0]) ?_ 1 _ rfl; (with_reducible repeat (first | refine blk_drewN ?_ _ | refine blk_drew ?_ | refine blk_alloc ?_ _)); refine blk_put (cs := #[.int .i64 0, .int .i64 0]) ?_ 0 _ rfl; (with_reducible repeat (first | refine blk_drewN ?_ _ | refine blk_drew ?_ | refine blk_alloc ?_ _)); exact BK141.out⟩, ⟨by repeat (first | (with_reducible first | exact HB.out | apply below_alloc | apply pw_below_drewN | apply below_drew1 | refine below_set ?_ GE129.out | refine below_set ?_ GE135.out | refine below_set ?_ GE141.out) | exact HB.out)⟩⟩
        · rw [if_neg c27] at H
          have c27b0 : (!(t139 == 0) || (!(t140 == 0))) = false := by simpa using c27
          clear c27
          by_cases c34 : (t124.length : Int) = 5
          · rw [if_pos c34] at H
            have c34b0 : ((t124.length : Int) == 5) = true := beq_iff_eq.mpr c34
            have c34b1 : ((t124.length : Int) != 5) = false := bne_eq_false_iff_eq.mpr c34
            clear c34
            have H' := Aside0.mk H
            clear H
            have hnb35 := NB129_135.out
            have hnc35 := NB135_129.out
            have hnb36 := NB129_141.out
            have hnc36 := NB141_129.out
            have hcz37_0 : w13.cell? ⟨gb129, 0, none⟩ = some (.int .i64 t127) := (blk_cell BK129.out 0).trans rfl
            have hcz37_1 : w13.cell? ⟨gb129, 1, none⟩ = some (.int .i64 t128) := (blk_cell BK129.out 1).trans rfl
            have hfz37_0 := blk_frozen BK129.out 0
            have hfz37_1 := blk_frozen BK129.out 1
            have hnb38 := NB135_141.out
            have hnc38 := NB141_135.out
            have hcz39_0 : w13.cell? ⟨gb135, 0, none⟩ = some (.int .i64 t133) := (blk_cell BK135.out 0).trans rfl
            have hcz39_1 : w13.cell? ⟨gb135, 1, none⟩ = some (.int .i64 t134) := (blk_cell BK135.out 1).trans rfl
            have hfz39_0 := blk_frozen BK135.out 0
            have hfz39_1 := blk_frozen BK135.out 1
            have hcz40_0 : w13.cell? ⟨gb141, 0, none⟩ = some (.int .i64 0) := (blk_cell BK141.out 0).trans rfl
            have hcz40_1 : w13.cell? ⟨gb141, 1, none⟩ = some (.int .i64 0) := (blk_cell BK141.out 1).trans rfl
            have hfz40_0 := blk_frozen BK141.out 0
            have hfz40_1 := blk_frozen BK141.out 1
            obtain ⟨Ao41, co41, eo41⟩ := Kd.R_slice HO126.out
            subst eo41
            obtain ⟨Ao42, co42, eo42⟩ := Kd.R_slice HO138.out
            subst eo42
            go_wp2
            go_meet
            case rel => exact ⟨_, (((t136.length : Int) != 2)), (by first | rfl | (simp; done) | (simp [*]; done)), H', ⟨by first | omega | exact Nat.le_refl _⟩, ⟨by (with_reducible repeat (first | apply Kd.R_alloc | apply Kd.R_drewN | apply Kd.R_drew)); exact Kd.R_mono (Kd.R_far (p := ⟨gb141, 1, none⟩) (Kd.R_far (p := ⟨gb141, 0, none⟩) (Kd.R_types HO126.out BK141.out (by decide)) (fun _ hk => hk.2) (.int .i64 t139)) (fun _ hk => hk.2) (.int .i64 t140)) (fun _ hk => hk.1.2)⟩, ⟨by (with_reducible repeat (first | apply Kd.R_alloc | apply Kd.R_drewN | apply Kd.R_drew)); exact Kd.R_mono (Kd.R_far (p := ⟨gb141, 1, none⟩) (Kd.R_far (p := ⟨gb141, 0, none⟩) (Kd.R_types HO138.out BK141.out (by decide)) (fun _ hk => hk.2) (.int .i64 t139)) (fun _ hk => hk.2) (.int .i64 t140)) (fun _ hk => hk.1.1.2)⟩, ⟨by (with_reducible repeat (first | refine blk_drewN ?_ _ | refine blk_drew ?_ | refine blk_alloc ?_ _)); refine blk_far ?_ NB129_141.out _; (with_reducible repeat (first | refine blk_drewN ?_ _ | refine blk_drew ?_ | refine blk_alloc ?_ _)); refine blk_far ?_ NB129_141.out _; (with_reducible repeat (first | refine blk_drewN ?_ _ | refine blk_drew ?_ | refine blk_alloc ?_ _)); exact BK129.out⟩, ⟨by (with_reducible repeat (first | refine blk_drewN ?_ _ | refine blk_drew ?_ | refine blk_alloc ?_ _)); refine blk_far ?_ NB135_141.out _; (with_reducible repeat (first | refine blk_drewN ?_ _ | refine blk_drew ?_ | refine blk_alloc ?_ _)); refine blk_far ?_ NB135_141.out _; (with_reducible repeat (first | refine blk_drewN ?_ _ | refine blk_drew ?_ | refine blk_alloc ?_ _)); exact BK135.out⟩, ⟨by (with_reducible repeat (first | refine blk_drewN ?_ _ | refine blk_drew ?_ | refine blk_alloc ?_ _)); refine blk_put (cs := #[.int .i64 t139, .int .i64 0]) ?_ 1 _ rfl; (with_reducible repeat (first | refine blk_drewN ?_ _ | refine blk_drew ?_ | refine blk_alloc ?_ _)); refine blk_put (cs := #[.int .i64 0, .int .i64 0]) ?_ 0 _ rfl; (with_reducible repeat (first | refine blk_drewN ?_ _ | refine blk_drew ?_ | refine blk_alloc ?_ _)); exact BK141.out⟩, ⟨by repeat (first | (with_reducible first | exact HB.out | apply below_alloc | apply pw_below_drewN | apply below_drew1 | refine below_set ?_ GE129.out | refine below_set ?_ GE135.out | refine below_set ?_ GE141.out) | exact HB.out)⟩⟩
          · rw [if_neg c34] at H
            have c34b0 : ((t124.length : Int) == 5) = false := beq_eq_false_iff_ne.mpr c34
            have c34b1 : ((t124.length : Int) != 5) = true := bne_iff_ne.mpr c34
            have H' := Aside0.mk H
            clear H
            have hnb43 := NB129_135.out
            have hnc43 := NB135_129.out
            have hnb44 := NB129_141.out
            have hnc44 := NB141_129.out
            have hcz45_0 : w13.cell? ⟨gb129, 0, none⟩ = some (.int .i64 t127) := (blk_cell BK129.out 0).trans rfl
            have hcz45_1 : w13.cell? ⟨gb129, 1, none⟩ = some (.int .i64 t128) := (blk_cell BK129.out 1).trans rfl
            have hfz45_0 := blk_frozen BK129.out 0
            have hfz45_1 := blk_frozen BK129.out 1
            have hnb46 := NB135_141.out
            have hnc46 := NB141_135.out
            have hcz47_0 : w13.cell? ⟨gb135, 0, none⟩ = some (.int .i64 t133) := (blk_cell BK135.out 0).trans rfl
            have hcz47_1 : w13.cell? ⟨gb135, 1, none⟩ = some (.int .i64 t134) := (blk_cell BK135.out 1).trans rfl
            have hfz47_0 := blk_frozen BK135.out 0
            have hfz47_1 := blk_frozen BK135.out 1
            have hcz48_0 : w13.cell? ⟨gb141, 0, none⟩ = some (.int .i64 0) := (blk_cell BK141.out 0).trans rfl
            have hcz48_1 : w13.cell? ⟨gb141, 1, none⟩ = some (.int .i64 0) := (blk_cell BK141.out 1).trans rfl
            have hfz48_0 := blk_frozen BK141.out 0
            have hfz48_1 := blk_frozen BK141.out 1
            obtain ⟨Ao49, co49, eo49⟩ := Kd.R_slice HO126.out
            subst eo49
            go_wp2
            go_meet
            case rel => exact ⟨_, (true), (by first | rfl | (simp; done) | (simp [*]; done)), H', ⟨by first | omega | exact Nat.le_refl _⟩, ⟨by (with_reducible repeat (first | apply Kd.R_alloc | apply Kd.R_drewN | apply Kd.R_drew)); exact Kd.R_mono (Kd.R_far (p := ⟨gb141, 1, none⟩) (Kd.R_far (p := ⟨gb141, 0, none⟩) (Kd.R_types HO126.out BK141.out (by decide)) (fun _ hk => hk.2) (.int .i64 t139)) (fun _ hk => hk.2) (.int .i64 t140)) (fun _ hk => hk.1.2)⟩, ⟨by (with_reducible repeat (first | apply Kd.R_alloc | apply Kd.R_drewN | apply Kd.R_drew)); exact Kd.R_mono (Kd.R_far (p := ⟨gb141, 1, none⟩) (Kd.R_far (p := ⟨gb141, 0, none⟩) (Kd.R_types HO138.out BK141.out (by decide)) (fun _ hk => hk.2) (.int .i64 t139)) (fun _ hk => hk.2) (.int .i64 t140)) (fun _ hk => hk.1.1.2)⟩, ⟨by (with_reducible repeat (first | refine blk_drewN ?_ _ | refine blk_drew ?_ | refine blk_alloc ?_ _)); refine blk_far ?_ NB129_141.out _; (with_reducible repeat (first | refine blk_drewN ?_ _ | refine blk_drew ?_ | refine blk_alloc ?_ _)); refine blk_far ?_ NB129_141.out _; (with_reducible repeat (first | refine blk_drewN ?_ _ | refine blk_drew ?_ | refine blk_alloc ?_ _)); exact BK129.out⟩, ⟨by (with_reducible repeat (first | refine blk_drewN ?_ _ | refine blk_drew ?_ | refine blk_alloc ?_ _)); refine blk_far ?_ NB135_141.out _; (with_reducible repeat (first | refine blk_drewN ?_ _ | refine blk_drew ?_ | refine blk_alloc ?_ _)); refine blk_far ?_ NB135_141.out _; (with_reducible repeat (first | refine blk_drewN ?_ _ | refine blk_drew ?_ | refine blk_alloc ?_ _)); exact BK135.out⟩, ⟨by (with_reducible repeat (first | refine blk_drewN ?_ _ | refine blk_drew ?_ | refine blk_alloc ?_ _)); refine blk_put (cs := #[.int .i64 t139, .int .i64 0]) ?_ 1 _ rfl; (with_reducible repeat (first | refine blk_drewN ?_ _ | refine blk_drew ?_ | refine blk_alloc ?_ _)); refine blk_put (cs := #[.int .i64 0, .int .i64 0]) ?_ 0 _ rfl; (with_reducible repeat (first | refine blk_drewN ?_ _ | refine blk_drew ?_ | refine blk_alloc ?_ _)); exact BK141.out⟩, ⟨by repeat (first | (with_reducible first | exact HB.out | apply below_alloc | apply pw_below_drewN | apply below_drew1 | refine below_set ?_ GE129.out | refine below_set ?_ GE135.out | refine below_set ?_ GE141.out) | exact HB.out)⟩⟩
  case rest =>
    clear HC4
    try clear c1
    try clear c2
    try clear p2
    try clear c3
    try clear c4
    try clear c5
    try clear c10
    try clear c14
    try clear c15
    try clear c17
    try clear c17b0
    try clear c18
    try clear c19
    try clear c21
    try clear c21b0
    try clear c22
    try clear c23
    try clear c25
    try clear c27
    try clear c27b0
    try clear c28
    try clear c29
    try clear c31
    try clear c34
    try clear c34b0
    try clear c34b1
    try clear c35
    try clear c36
    try clear c38
    try clear c43
    try clear c44
    try clear c46
    try clear hcz11_0
    try clear hcz11_1
    try clear hcz16_0
    try clear hcz16_1
    try clear hcz20_0
    try clear hcz20_1
    try clear hcz24_0
    try clear hcz24_1
    try clear hcz26_0
    try clear hcz26_1
    try clear hcz30_0
    try clear hcz30_1
    try clear hcz32_0
    try clear hcz32_1
    try clear hcz33_0
    try clear hcz33_1
    try clear hcz37_0
    try clear hcz37_1
    try clear hcz39_0
    try clear hcz39_1
    try clear hcz40_0
    try clear hcz40_1
    try clear hcz45_0
    try clear hcz45_1
    try clear hcz47_0
    try clear hcz47_1
    try clear hcz48_0
    try clear hcz48_1
    try clear hcz7_0
    try clear hcz7_1
    try clear hfz11_0
    try clear hfz11_1
    try clear hfz16_0
    try clear hfz16_1
    try clear hfz20_0
    try clear hfz20_1
    try clear hfz24_0
    try clear hfz24_1
    try clear hfz26_0
    try clear hfz26_1
    try clear hfz30_0
    try clear hfz30_1
    try clear hfz32_0
    try clear hfz32_1
    try clear hfz33_0
    try clear hfz33_1
    try clear hfz37_0
    try clear hfz37_1
    try clear hfz39_0
    try clear hfz39_1
    try clear hfz40_0
    try clear hfz40_1
    try clear hfz45_0
    try clear hfz45_1
    try clear hfz47_0
    try clear hfz47_1
    try clear hfz48_0
    try clear hfz48_1
    try clear hfz7_0
    try clear hfz7_1
    obtain ⟨kq, x41_3, rfl, HA, HJ3, HO_1, HO_5, BK129, BK135, BK141, HB⟩ := hcut
    cases kq with
    | zero => exact absurd HA.out (by simp [chancerylaw19_awake.j0])
    | succ kj3 =>
      have H := HA.out
      clear HA
      simp only [chancerylaw19_awake.j0] at H
      by_cases c50 : x41_3 = true
      · subst c50
        have H1 : (some false) = some r := by rw [if_pos rfl] at H; exact H
        clear H
        have H := H1
        clear H1
        obtain rfl := Option.some.inj H
        go_wp2
        go_ret
        exact ⟨by first | rfl | (simp [errW_none, errW_some] <;> rfl) | (simp [*, errW_none, errW_some] <;> rfl), by repeat (first | (with_reducible first | exact HB.out | apply below_alloc | apply pw_below_drewN | apply below_drew1 | refine below_set ?_ GE129.out | refine below_set ?_ GE135.out | refine below_set ?_ GE141.out) | exact HB.out)⟩
      · replace c50 := Bool.eq_false_iff.mpr c50
        subst c50
        have H1 : (if 3 < (t124.length : Int) then (if (((rd_T32 t124 3).f0) == 5 && ((((rd_T32 t124 3).f1).toList) == ([60, 62] : List UInt8) && (((rd_T32 t124 3).f2) == 3))) = true then (if 4 < (t124.length : Int) then (if (((rd_T32 t124 4).f0) == 3 && ((((rd_T32 t124 4).f1).toList) == ([105, 116, 39, 115] : List UInt8) && (((rd_T32 t124 4).f2) == 5))) = true then (if 0 < (t136.length : Int) then (if ((rd_T32 t136 0).f1).toList = ([0, 255] : List UInt8) then (if 1 < (t136.length : Int) then (if ((rd_T32 t136 1).f1).toList = ([49, 46, 53, 48] : List UInt8) then ((lexer_Name.f (⟨#[97]⟩ : ByteArray)).bind fun t146 => (if t146 = true then ((lexer_Name.f (⟨#[115, 101, 108, 101, 99, 116]⟩ : ByteArray)).bind fun t147 => (if t147 = true then (some false) else ((lexer_Reserved.f (⟨#[115, 101, 108, 101, 99, 116]⟩ : ByteArray)).bind fun t148 => (some t148)))) else (some false))) else (some false)) else (none)) else (some false)) else (none)) else (some false)) else (none)) else (some false)) else (none)) = some r := by rw [if_neg (show ¬ (false = true) by decide)] at H; exact H
        clear H
        have H := H1
        clear H1
        by_cases c51 : 3 < (t124.length : Int)
        · rw [if_pos c51] at H
          have c51b0 : decide (3 < (t124.length : Int)) = true := decide_eq_true c51
          have c51b1 : decide (3 < t124.length) = true := decide_eq_true (by omega)
          clear c51
          by_cases c52 : (((rd_T32 t124 3).f0) == 5 && ((((rd_T32 t124 3).f1).toList) == ([60, 62] : List UInt8) && (((rd_T32 t124 3).f2) == 3))) = true
          · rw [if_pos c52] at H
            have c52b0 : (((rd_T32 t124 3).f0) == 5 && ((((rd_T32 t124 3).f1).toList) == ([60, 62] : List UInt8) && (((rd_T32 t124 3).f2) == 3))) = true := c52
            (try (have c52b1 : decide (((rd_T32 t124 3).f0) = 5 && ((((rd_T32 t124 3).f1).toList) == ([60, 62] : List UInt8) && (((rd_T32 t124 3).f2) == 3))) = true := by simpa using c52))
            (try (have c52b2 : (((rd_T32 t124 3).f0) == 5 && ((((rd_T32 t124 3).f1).toList) == ([60, 62] : List UInt8) && (((rd_T32 t124 3).f2) == 3))) = true := by simpa using c52))
            clear c52
            by_cases c53 : 4 < (t124.length : Int)
            · rw [if_pos c53] at H
              have c53b0 : decide (4 < (t124.length : Int)) = true := decide_eq_true c53
              have c53b1 : decide (4 < t124.length) = true := decide_eq_true (by omega)
              clear c53
              by_cases c54 : (((rd_T32 t124 4).f0) == 3 && ((((rd_T32 t124 4).f1).toList) == ([105, 116, 39, 115] : List UInt8) && (((rd_T32 t124 4).f2) == 5))) = true
              · rw [if_pos c54] at H
                have c54b0 : (((rd_T32 t124 4).f0) == 3 && ((((rd_T32 t124 4).f1).toList) == ([105, 116, 39, 115] : List UInt8) && (((rd_T32 t124 4).f2) == 5))) = true := c54
                (try (have c54b1 : decide (((rd_T32 t124 4).f0) = 3 && ((((rd_T32 t124 4).f1).toList) == ([105, 116, 39, 115] : List UInt8) && (((rd_T32 t124 4).f2) == 5))) = true := by simpa using c54))
                (try (have c54b2 : (((rd_T32 t124 4).f0) == 3 && ((((rd_T32 t124 4).f1).toList) == ([105, 116, 39, 115] : List UInt8) && (((rd_T32 t124 4).f2) == 5))) = true := by simpa using c54))
                clear c54
                by_cases c55 : 0 < (t136.length : Int)
                · rw [if_pos c55] at H
                  have c55b0 : decide (0 < (t136.length : Int)) = true := decide_eq_true c55
                  have c55b1 : decide (0 < t136.length) = true := decide_eq_true (by omega)
                  clear c55
                  by_cases c56 : ((rd_T32 t136 0).f1).toList = ([0, 255] : List UInt8)
                  · rw [if_pos c56] at H
                    have c56b0 : (((rd_T32 t136 0).f1).toList == ([0, 255] : List UInt8)) = true := beq_iff_eq.mpr c56
                    have c56b1 : (((rd_T32 t136 0).f1).toList != ([0, 255] : List UInt8)) = false := bne_eq_false_iff_eq.mpr c56
                    clear c56
                    by_cases c57 : 1 < (t136.length : Int)
                    · rw [if_pos c57] at H
                      have c57b0 : decide (1 < (t136.length : Int)) = true := decide_eq_true c57
                      have c57b1 : decide (1 < t136.length) = true := decide_eq_true (by omega)
                      clear c57
                      by_cases c58 : ((rd_T32 t136 1).f1).toList = ([49, 46, 53, 48] : List UInt8)
                      · rw [if_pos c58] at H
                        have c58b0 : (((rd_T32 t136 1).f1).toList == ([49, 46, 53, 48] : List UInt8)) = true := beq_iff_eq.mpr c58
                        have c58b1 : (((rd_T32 t136 1).f1).toList != ([49, 46, 53, 48] : List UInt8)) = false := bne_eq_false_iff_eq.mpr c58
                        clear c58
                        replace H := Option.bind_eq_some_iff.mp H
                        obtain ⟨t146, A590, H⟩ := H
                        replace H : (if t146 = true then ((lexer_Name.f (⟨#[115, 101, 108, 101, 99, 116]⟩ : ByteArray)).bind fun t147 => (if t147 = true then (some false) else ((lexer_Reserved.f (⟨#[115, 101, 108, 101, 99, 116]⟩ : ByteArray)).bind fun t148 => (some t148)))) else (some false)) = some r := H
                        have A59 := Aside0.mk A590
                        clear A590
                        by_cases c60 : t146 = true
                        · subst c60
                          have H1 : ((lexer_Name.f (⟨#[115, 101, 108, 101, 99, 116]⟩ : ByteArray)).bind fun t147 => (if t147 = true then (some false) else ((lexer_Reserved.f (⟨#[115, 101, 108, 101, 99, 116]⟩ : ByteArray)).bind fun t148 => (some t148)))) = some r := by rw [if_pos rfl] at H; exact H
                          clear H
                          have H := H1
                          clear H1
                          replace H := Option.bind_eq_some_iff.mp H
                          obtain ⟨t147, A610, H⟩ := H
                          replace H : (if t147 = true then (some false) else ((lexer_Reserved.f (⟨#[115, 101, 108, 101, 99, 116]⟩ : ByteArray)).bind fun t148 => (some t148))) = some r := H
                          have A61 := Aside0.mk A610
                          clear A610
                          by_cases c62 : t147 = true
                          · subst c62
                            have H1 : (some false) = some r := by rw [if_pos rfl] at H; exact H
                            clear H
                            have H := H1
                            clear H1
                            obtain rfl := Option.some.inj H
                            obtain ⟨Ao63, co63, eo63⟩ := Kd.R_slice HO_1.out
                            subst eo63
                            have p142 : 0 ≤ (3 : Int) := (by omega)
                            have q142 : 3 < (t124.length : Int) := of_decide_eq_true (by first | (with_reducible assumption) | assumption)
                            obtain ⟨ad142, e142, hx142_0, hx142_1, hx142_2⟩ := at_T32 (Kd.R_reads' HO_1.out).2.2 3 p142 q142
                            cases e142
                            (try simp only [show (3 : Int).toNat = 3 from rfl, Nat.reduceMul, Nat.reduceEqDiff, Go.Addr.add, ↓reduceIte] at hx142_0)
                            (try simp only [show (3 : Int).toNat = 3 from rfl, Nat.reduceMul, Nat.reduceEqDiff, Go.Addr.add, ↓reduceIte] at hx142_1)
                            (try simp only [show (3 : Int).toNat = 3 from rfl, Nat.reduceMul, Nat.reduceEqDiff, Go.Addr.add, ↓reduceIte] at hx142_2)
                            have qi142 : (3 < t124.length) = True := eq_true (by omega)
                            (try rw [show ((3 : Int)).toNat = 3 from rfl] at hx142_0)
                            (try rw [show 3 * 3 = 9 from rfl] at hx142_0)
                            (try rw [show ((3 : Int)).toNat = 3 from rfl] at hx142_1)
                            (try rw [show 3 * 3 = 9 from rfl] at hx142_1)
                            (try rw [show ((3 : Int)).toNat = 3 from rfl] at hx142_2)
                            (try rw [show 3 * 3 = 9 from rfl] at hx142_2)
                            replace p142 := eq_true p142
                            replace q142 := eq_true q142
                            have p143 : 0 ≤ (4 : Int) := (by omega)
                            have q143 : 4 < (t124.length : Int) := of_decide_eq_true (by first | (with_reducible assumption) | assumption)
                            obtain ⟨ad143, e143, hx143_0, hx143_1, hx143_2⟩ := at_T32 (Kd.R_reads' HO_1.out).2.2 4 p143 q143
                            obtain rfl : ad142 = ad143 := (by injection e143)
                            (try simp only [show (4 : Int).toNat = 4 from rfl, Nat.reduceMul, Nat.reduceEqDiff, Go.Addr.add, ↓reduceIte] at hx143_0)
                            (try simp only [show (4 : Int).toNat = 4 from rfl, Nat.reduceMul, Nat.reduceEqDiff, Go.Addr.add, ↓reduceIte] at hx143_1)
                            (try simp only [show (4 : Int).toNat = 4 from rfl, Nat.reduceMul, Nat.reduceEqDiff, Go.Addr.add, ↓reduceIte] at hx143_2)
                            have qi143 : (4 < t124.length) = True := eq_true (by omega)
                            (try rw [show ((4 : Int)).toNat = 4 from rfl] at hx143_0)
                            (try rw [show 4 * 3 = 12 from rfl] at hx143_0)
                            (try rw [show ((4 : Int)).toNat = 4 from rfl] at hx143_1)
                            (try rw [show 4 * 3 = 12 from rfl] at hx143_1)
                            (try rw [show ((4 : Int)).toNat = 4 from rfl] at hx143_2)
                            (try rw [show 4 * 3 = 12 from rfl] at hx143_2)
                            replace p143 := eq_true p143
                            replace q143 := eq_true q143
                            obtain ⟨Ao64, co64, eo64⟩ := Kd.R_slice HO_5.out
                            subst eo64
                            have p144 : 0 ≤ (0 : Int) := (by omega)
                            have q144 : 0 < (t136.length : Int) := of_decide_eq_true (by first | (with_reducible assumption) | assumption)
                            obtain ⟨ad144, e144, hx144_0, hx144_1, hx144_2⟩ := at_T32 (Kd.R_reads' HO_5.out).2.2 0 p144 q144
                            cases e144
                            have qi144 : (0 < t136.length) = True := eq_true (by omega)
                            (try rw [show ((0 : Int)).toNat = 0 from rfl] at hx144_0)
                            (try rw [show 0 * 3 = 0 from rfl] at hx144_0)
                            (try rw [Addr.add_zero'] at hx144_0)
                            (try rw [show ((0 : Int)).toNat = 0 from rfl] at hx144_1)
                            (try rw [show 0 * 3 = 0 from rfl] at hx144_1)
                            (try rw [Addr.add_zero'] at hx144_1)
                            (try rw [show ((0 : Int)).toNat = 0 from rfl] at hx144_2)
                            (try rw [show 0 * 3 = 0 from rfl] at hx144_2)
                            (try rw [Addr.add_zero'] at hx144_2)
                            replace p144 := eq_true p144
                            replace q144 := eq_true q144
                            have p145 : 0 ≤ (1 : Int) := (by omega)
                            have q145 : 1 < (t136.length : Int) := of_decide_eq_true (by first | (with_reducible assumption) | assumption)
                            obtain ⟨ad145, e145, hx145_0, hx145_1, hx145_2⟩ := at_T32 (Kd.R_reads' HO_5.out).2.2 1 p145 q145
                            obtain rfl : ad144 = ad145 := (by injection e145)
                            (try simp only [show (1 : Int).toNat = 1 from rfl, Nat.reduceMul, Nat.reduceEqDiff, Go.Addr.add, ↓reduceIte] at hx145_0)
                            (try simp only [show (1 : Int).toNat = 1 from rfl, Nat.reduceMul, Nat.reduceEqDiff, Go.Addr.add, ↓reduceIte] at hx145_1)
                            (try simp only [show (1 : Int).toNat = 1 from rfl, Nat.reduceMul, Nat.reduceEqDiff, Go.Addr.add, ↓reduceIte] at hx145_2)
                            have qi145 : (1 < t136.length) = True := eq_true (by omega)
                            (try rw [show ((1 : Int)).toNat = 1 from rfl] at hx145_0)
                            (try rw [show 1 * 3 = 3 from rfl] at hx145_0)
                            (try rw [show ((1 : Int)).toNat = 1 from rfl] at hx145_1)
                            (try rw [show 1 * 3 = 3 from rfl] at hx145_1)
                            (try rw [show ((1 : Int)).toNat = 1 from rfl] at hx145_2)
                            (try rw [show 1 * 3 = 3 from rfl] at hx145_2)
                            replace p145 := eq_true p145
                            replace q145 := eq_true q145
                            go_wp2_with (first | (go_at_call 10; (with_reducible refine (lexer_Name.calls (⟨#[97]⟩ : ByteArray) true _ A59.out (by first | exact HG.out | exact GlobOK.drawn HG.out ⟨⟨_, rfl⟩⟩ | exact GlobOK.below HG.out (by repeat (first | (with_reducible first | exact HB.out | apply below_alloc | apply pw_below_drewN | apply below_drew1) | exact HB.out)))).mono ?_); rintro e w' ⟨rfl, ⟨nd, rfl⟩⟩) | (go_at_call 10; (with_reducible refine (lexer_Name.calls (⟨#[115, 101, 108, 101, 99, 116]⟩ : ByteArray) true _ A61.out (by first | exact HG.out | exact GlobOK.drawn HG.out ⟨⟨_, rfl⟩⟩ | exact GlobOK.below HG.out (by repeat (first | (with_reducible first | exact HB.out | apply below_alloc | apply pw_below_drewN | apply below_drew1) | exact HB.out)))).mono ?_); rintro e w' ⟨rfl, ⟨nd, rfl⟩⟩))
                            go_ret
                            exact ⟨by first | rfl | (simp [errW_none, errW_some] <;> rfl) | (simp [*, errW_none, errW_some] <;> rfl), by repeat (first | (with_reducible first | exact HB.out | apply below_alloc | apply pw_below_drewN | apply below_drew1 | refine below_set ?_ GE129.out | refine below_set ?_ GE135.out | refine below_set ?_ GE141.out) | exact HB.out)⟩
                          · replace c62 := Bool.eq_false_iff.mpr c62
                            subst c62
                            have H1 : ((lexer_Reserved.f (⟨#[115, 101, 108, 101, 99, 116]⟩ : ByteArray)).bind fun t148 => (some t148)) = some r := by rw [if_neg (show ¬ (false = true) by decide)] at H; exact H
                            clear H
                            have H := H1
                            clear H1
                            replace H := Option.bind_eq_some_iff.mp H
                            obtain ⟨t148, A650, H⟩ := H
                            replace H : (some t148) = some r := H
                            have A65 := Aside0.mk A650
                            clear A650
                            obtain rfl := Option.some.inj H
                            obtain ⟨Ao66, co66, eo66⟩ := Kd.R_slice HO_1.out
                            subst eo66
                            have p142 : 0 ≤ (3 : Int) := (by omega)
                            have q142 : 3 < (t124.length : Int) := of_decide_eq_true (by first | (with_reducible assumption) | assumption)
                            obtain ⟨ad142, e142, hx142_0, hx142_1, hx142_2⟩ := at_T32 (Kd.R_reads' HO_1.out).2.2 3 p142 q142
                            cases e142
                            (try simp only [show (3 : Int).toNat = 3 from rfl, Nat.reduceMul, Nat.reduceEqDiff, Go.Addr.add, ↓reduceIte] at hx142_0)
                            (try simp only [show (3 : Int).toNat = 3 from rfl, Nat.reduceMul, Nat.reduceEqDiff, Go.Addr.add, ↓reduceIte] at hx142_1)
                            (try simp only [show (3 : Int).toNat = 3 from rfl, Nat.reduceMul, Nat.reduceEqDiff, Go.Addr.add, ↓reduceIte] at hx142_2)
                            have qi142 : (3 < t124.length) = True := eq_true (by omega)
                            (try rw [show ((3 : Int)).toNat = 3 from rfl] at hx142_0)
                            (try rw [show 3 * 3 = 9 from rfl] at hx142_0)
                            (try rw [show ((3 : Int)).toNat = 3 from rfl] at hx142_1)
                            (try rw [show 3 * 3 = 9 from rfl] at hx142_1)
                            (try rw [show ((3 : Int)).toNat = 3 from rfl] at hx142_2)
                            (try rw [show 3 * 3 = 9 from rfl] at hx142_2)
                            replace p142 := eq_true p142
                            replace q142 := eq_true q142
                            have p143 : 0 ≤ (4 : Int) := (by omega)
                            have q143 : 4 < (t124.length : Int) := of_decide_eq_true (by first | (with_reducible assumption) | assumption)
                            obtain ⟨ad143, e143, hx143_0, hx143_1, hx143_2⟩ := at_T32 (Kd.R_reads' HO_1.out).2.2 4 p143 q143
                            obtain rfl : ad142 = ad143 := (by injection e143)
                            (try simp only [show (4 : Int).toNat = 4 from rfl, Nat.reduceMul, Nat.reduceEqDiff, Go.Addr.add, ↓reduceIte] at hx143_0)
                            (try simp only [show (4 : Int).toNat = 4 from rfl, Nat.reduceMul, Nat.reduceEqDiff, Go.Addr.add, ↓reduceIte] at hx143_1)
                            (try simp only [show (4 : Int).toNat = 4 from rfl, Nat.reduceMul, Nat.reduceEqDiff, Go.Addr.add, ↓reduceIte] at hx143_2)
                            have qi143 : (4 < t124.length) = True := eq_true (by omega)
                            (try rw [show ((4 : Int)).toNat = 4 from rfl] at hx143_0)
                            (try rw [show 4 * 3 = 12 from rfl] at hx143_0)
                            (try rw [show ((4 : Int)).toNat = 4 from rfl] at hx143_1)
                            (try rw [show 4 * 3 = 12 from rfl] at hx143_1)
                            (try rw [show ((4 : Int)).toNat = 4 from rfl] at hx143_2)
                            (try rw [show 4 * 3 = 12 from rfl] at hx143_2)
                            replace p143 := eq_true p143
                            replace q143 := eq_true q143
                            obtain ⟨Ao67, co67, eo67⟩ := Kd.R_slice HO_5.out
                            subst eo67
                            have p144 : 0 ≤ (0 : Int) := (by omega)
                            have q144 : 0 < (t136.length : Int) := of_decide_eq_true (by first | (with_reducible assumption) | assumption)
                            obtain ⟨ad144, e144, hx144_0, hx144_1, hx144_2⟩ := at_T32 (Kd.R_reads' HO_5.out).2.2 0 p144 q144
                            cases e144
                            have qi144 : (0 < t136.length) = True := eq_true (by omega)
                            (try rw [show ((0 : Int)).toNat = 0 from rfl] at hx144_0)
                            (try rw [show 0 * 3 = 0 from rfl] at hx144_0)
                            (try rw [Addr.add_zero'] at hx144_0)
                            (try rw [show ((0 : Int)).toNat = 0 from rfl] at hx144_1)
                            (try rw [show 0 * 3 = 0 from rfl] at hx144_1)
                            (try rw [Addr.add_zero'] at hx144_1)
                            (try rw [show ((0 : Int)).toNat = 0 from rfl] at hx144_2)
                            (try rw [show 0 * 3 = 0 from rfl] at hx144_2)
                            (try rw [Addr.add_zero'] at hx144_2)
                            replace p144 := eq_true p144
                            replace q144 := eq_true q144
                            have p145 : 0 ≤ (1 : Int) := (by omega)
                            have q145 : 1 < (t136.length : Int) := of_decide_eq_true (by first | (with_reducible assumption) | assumption)
                            obtain ⟨ad145, e145, hx145_0, hx145_1, hx145_2⟩ := at_T32 (Kd.R_reads' HO_5.out).2.2 1 p145 q145
                            obtain rfl : ad144 = ad145 := (by injection e145)
                            (try simp only [show (1 : Int).toNat = 1 from rfl, Nat.reduceMul, Nat.reduceEqDiff, Go.Addr.add, ↓reduceIte] at hx145_0)
                            (try simp only [show (1 : Int).toNat = 1 from rfl, Nat.reduceMul, Nat.reduceEqDiff, Go.Addr.add, ↓reduceIte] at hx145_1)
                            (try simp only [show (1 : Int).toNat = 1 from rfl, Nat.reduceMul, Nat.reduceEqDiff, Go.Addr.add, ↓reduceIte] at hx145_2)
                            have qi145 : (1 < t136.length) = True := eq_true (by omega)
                            (try rw [show ((1 : Int)).toNat = 1 from rfl] at hx145_0)
                            (try rw [show 1 * 3 = 3 from rfl] at hx145_0)
                            (try rw [show ((1 : Int)).toNat = 1 from rfl] at hx145_1)
                            (try rw [show 1 * 3 = 3 from rfl] at hx145_1)
                            (try rw [show ((1 : Int)).toNat = 1 from rfl] at hx145_2)
                            (try rw [show 1 * 3 = 3 from rfl] at hx145_2)
                            replace p145 := eq_true p145
                            replace q145 := eq_true q145
                            go_wp2_with (first | (go_at_call 10; (with_reducible refine (lexer_Name.calls (⟨#[97]⟩ : ByteArray) true _ A59.out (by first | exact HG.out | exact GlobOK.drawn HG.out ⟨⟨_, rfl⟩⟩ | exact GlobOK.below HG.out (by repeat (first | (with_reducible first | exact HB.out | apply below_alloc | apply pw_below_drewN | apply below_drew1) | exact HB.out)))).mono ?_); rintro e w' ⟨rfl, ⟨nd, rfl⟩⟩) | (go_at_call 10; (with_reducible refine (lexer_Name.calls (⟨#[115, 101, 108, 101, 99, 116]⟩ : ByteArray) false _ A61.out (by first | exact HG.out | exact GlobOK.drawn HG.out ⟨⟨_, rfl⟩⟩ | exact GlobOK.below HG.out (by repeat (first | (with_reducible first | exact HB.out | apply below_alloc | apply pw_below_drewN | apply below_drew1) | exact HB.out)))).mono ?_); rintro e w' ⟨rfl, ⟨nd, rfl⟩⟩) | (go_at_call 11; (with_reducible refine (lexer_Reserved.calls (⟨#[115, 101, 108, 101, 99, 116]⟩ : ByteArray) t148 _ A65.out (by first | exact HG.out | exact GlobOK.drawn HG.out ⟨⟨_, rfl⟩⟩ | exact GlobOK.below HG.out (by repeat (first | (with_reducible first | exact HB.out | apply below_alloc | apply pw_below_drewN | apply below_drew1) | exact HB.out)))).mono ?_); rintro e w' ⟨rfl, ⟨nd, rfl⟩⟩))
                            go_ret
                            exact ⟨by first | rfl | (simp [errW_none, errW_some] <;> rfl) | (simp [*, errW_none, errW_some] <;> rfl), by repeat (first | (with_reducible first | exact HB.out | apply below_alloc | apply pw_below_drewN | apply below_drew1 | refine below_set ?_ GE129.out | refine below_set ?_ GE135.out | refine below_set ?_ GE141.out) | exact HB.out)⟩
                        · replace c60 := Bool.eq_false_iff.mpr c60
                          subst c60
                          have H1 : (some false) = some r := by rw [if_neg (show ¬ (false = true) by decide)] at H; exact H
                          clear H
                          have H := H1
                          clear H1
                          obtain rfl := Option.some.inj H
                          obtain ⟨Ao68, co68, eo68⟩ := Kd.R_slice HO_1.out
                          subst eo68
                          have p142 : 0 ≤ (3 : Int) := (by omega)
                          have q142 : 3 < (t124.length : Int) := of_decide_eq_true (by first | (with_reducible assumption) | assumption)
                          obtain ⟨ad142, e142, hx142_0, hx142_1, hx142_2⟩ := at_T32 (Kd.R_reads' HO_1.out).2.2 3 p142 q142
                          cases e142
                          (try simp only [show (3 : Int).toNat = 3 from rfl, Nat.reduceMul, Nat.reduceEqDiff, Go.Addr.add, ↓reduceIte] at hx142_0)
                          (try simp only [show (3 : Int).toNat = 3 from rfl, Nat.reduceMul, Nat.reduceEqDiff, Go.Addr.add, ↓reduceIte] at hx142_1)
                          (try simp only [show (3 : Int).toNat = 3 from rfl, Nat.reduceMul, Nat.reduceEqDiff, Go.Addr.add, ↓reduceIte] at hx142_2)
                          have qi142 : (3 < t124.length) = True := eq_true (by omega)
                          (try rw [show ((3 : Int)).toNat = 3 from rfl] at hx142_0)
                          (try rw [show 3 * 3 = 9 from rfl] at hx142_0)
                          (try rw [show ((3 : Int)).toNat = 3 from rfl] at hx142_1)
                          (try rw [show 3 * 3 = 9 from rfl] at hx142_1)
                          (try rw [show ((3 : Int)).toNat = 3 from rfl] at hx142_2)
                          (try rw [show 3 * 3 = 9 from rfl] at hx142_2)
                          replace p142 := eq_true p142
                          replace q142 := eq_true q142
                          have p143 : 0 ≤ (4 : Int) := (by omega)
                          have q143 : 4 < (t124.length : Int) := of_decide_eq_true (by first | (with_reducible assumption) | assumption)
                          obtain ⟨ad143, e143, hx143_0, hx143_1, hx143_2⟩ := at_T32 (Kd.R_reads' HO_1.out).2.2 4 p143 q143
                          obtain rfl : ad142 = ad143 := (by injection e143)
                          (try simp only [show (4 : Int).toNat = 4 from rfl, Nat.reduceMul, Nat.reduceEqDiff, Go.Addr.add, ↓reduceIte] at hx143_0)
                          (try simp only [show (4 : Int).toNat = 4 from rfl, Nat.reduceMul, Nat.reduceEqDiff, Go.Addr.add, ↓reduceIte] at hx143_1)
                          (try simp only [show (4 : Int).toNat = 4 from rfl, Nat.reduceMul, Nat.reduceEqDiff, Go.Addr.add, ↓reduceIte] at hx143_2)
                          have qi143 : (4 < t124.length) = True := eq_true (by omega)
                          (try rw [show ((4 : Int)).toNat = 4 from rfl] at hx143_0)
                          (try rw [show 4 * 3 = 12 from rfl] at hx143_0)
                          (try rw [show ((4 : Int)).toNat = 4 from rfl] at hx143_1)
                          (try rw [show 4 * 3 = 12 from rfl] at hx143_1)
                          (try rw [show ((4 : Int)).toNat = 4 from rfl] at hx143_2)
                          (try rw [show 4 * 3 = 12 from rfl] at hx143_2)
                          replace p143 := eq_true p143
                          replace q143 := eq_true q143
                          obtain ⟨Ao69, co69, eo69⟩ := Kd.R_slice HO_5.out
                          subst eo69
                          have p144 : 0 ≤ (0 : Int) := (by omega)
                          have q144 : 0 < (t136.length : Int) := of_decide_eq_true (by first | (with_reducible assumption) | assumption)
                          obtain ⟨ad144, e144, hx144_0, hx144_1, hx144_2⟩ := at_T32 (Kd.R_reads' HO_5.out).2.2 0 p144 q144
                          cases e144
                          have qi144 : (0 < t136.length) = True := eq_true (by omega)
                          (try rw [show ((0 : Int)).toNat = 0 from rfl] at hx144_0)
                          (try rw [show 0 * 3 = 0 from rfl] at hx144_0)
                          (try rw [Addr.add_zero'] at hx144_0)
                          (try rw [show ((0 : Int)).toNat = 0 from rfl] at hx144_1)
                          (try rw [show 0 * 3 = 0 from rfl] at hx144_1)
                          (try rw [Addr.add_zero'] at hx144_1)
                          (try rw [show ((0 : Int)).toNat = 0 from rfl] at hx144_2)
                          (try rw [show 0 * 3 = 0 from rfl] at hx144_2)
                          (try rw [Addr.add_zero'] at hx144_2)
                          replace p144 := eq_true p144
                          replace q144 := eq_true q144
                          have p145 : 0 ≤ (1 : Int) := (by omega)
                          have q145 : 1 < (t136.length : Int) := of_decide_eq_true (by first | (with_reducible assumption) | assumption)
                          obtain ⟨ad145, e145, hx145_0, hx145_1, hx145_2⟩ := at_T32 (Kd.R_reads' HO_5.out).2.2 1 p145 q145
                          obtain rfl : ad144 = ad145 := (by injection e145)
                          (try simp only [show (1 : Int).toNat = 1 from rfl, Nat.reduceMul, Nat.reduceEqDiff, Go.Addr.add, ↓reduceIte] at hx145_0)
                          (try simp only [show (1 : Int).toNat = 1 from rfl, Nat.reduceMul, Nat.reduceEqDiff, Go.Addr.add, ↓reduceIte] at hx145_1)
                          (try simp only [show (1 : Int).toNat = 1 from rfl, Nat.reduceMul, Nat.reduceEqDiff, Go.Addr.add, ↓reduceIte] at hx145_2)
                          have qi145 : (1 < t136.length) = True := eq_true (by omega)
                          (try rw [show ((1 : Int)).toNat = 1 from rfl] at hx145_0)
                          (try rw [show 1 * 3 = 3 from rfl] at hx145_0)
                          (try rw [show ((1 : Int)).toNat = 1 from rfl] at hx145_1)
                          (try rw [show 1 * 3 = 3 from rfl] at hx145_1)
                          (try rw [show ((1 : Int)).toNat = 1 from rfl] at hx145_2)
                          (try rw [show 1 * 3 = 3 from rfl] at hx145_2)
                          replace p145 := eq_true p145
                          replace q145 := eq_true q145
                          go_wp2_with (first | (go_at_call 10; (with_reducible refine (lexer_Name.calls (⟨#[97]⟩ : ByteArray) false _ A59.out (by first | exact HG.out | exact GlobOK.drawn HG.out ⟨⟨_, rfl⟩⟩ | exact GlobOK.below HG.out (by repeat (first | (with_reducible first | exact HB.out | apply below_alloc | apply pw_below_drewN | apply below_drew1) | exact HB.out)))).mono ?_); rintro e w' ⟨rfl, ⟨nd, rfl⟩⟩))
                          go_ret
                          exact ⟨by first | rfl | (simp [errW_none, errW_some] <;> rfl) | (simp [*, errW_none, errW_some] <;> rfl), by repeat (first | (with_reducible first | exact HB.out | apply below_alloc | apply pw_below_drewN | apply below_drew1 | refine below_set ?_ GE129.out | refine below_set ?_ GE135.out | refine below_set ?_ GE141.out) | exact HB.out)⟩
                      · rw [if_neg c58] at H
                        have c58b0 : (((rd_T32 t136 1).f1).toList == ([49, 46, 53, 48] : List UInt8)) = false := beq_eq_false_iff_ne.mpr c58
                        have c58b1 : (((rd_T32 t136 1).f1).toList != ([49, 46, 53, 48] : List UInt8)) = true := bne_iff_ne.mpr c58
                        obtain rfl := Option.some.inj H
                        obtain ⟨Ao70, co70, eo70⟩ := Kd.R_slice HO_1.out
                        subst eo70
                        have p142 : 0 ≤ (3 : Int) := (by omega)
                        have q142 : 3 < (t124.length : Int) := of_decide_eq_true (by first | (with_reducible assumption) | assumption)
                        obtain ⟨ad142, e142, hx142_0, hx142_1, hx142_2⟩ := at_T32 (Kd.R_reads' HO_1.out).2.2 3 p142 q142
                        cases e142
                        (try simp only [show (3 : Int).toNat = 3 from rfl, Nat.reduceMul, Nat.reduceEqDiff, Go.Addr.add, ↓reduceIte] at hx142_0)
                        (try simp only [show (3 : Int).toNat = 3 from rfl, Nat.reduceMul, Nat.reduceEqDiff, Go.Addr.add, ↓reduceIte] at hx142_1)
                        (try simp only [show (3 : Int).toNat = 3 from rfl, Nat.reduceMul, Nat.reduceEqDiff, Go.Addr.add, ↓reduceIte] at hx142_2)
                        have qi142 : (3 < t124.length) = True := eq_true (by omega)
                        (try rw [show ((3 : Int)).toNat = 3 from rfl] at hx142_0)
                        (try rw [show 3 * 3 = 9 from rfl] at hx142_0)
                        (try rw [show ((3 : Int)).toNat = 3 from rfl] at hx142_1)
                        (try rw [show 3 * 3 = 9 from rfl] at hx142_1)
                        (try rw [show ((3 : Int)).toNat = 3 from rfl] at hx142_2)
                        (try rw [show 3 * 3 = 9 from rfl] at hx142_2)
                        replace p142 := eq_true p142
                        replace q142 := eq_true q142
                        have p143 : 0 ≤ (4 : Int) := (by omega)
                        have q143 : 4 < (t124.length : Int) := of_decide_eq_true (by first | (with_reducible assumption) | assumption)
                        obtain ⟨ad143, e143, hx143_0, hx143_1, hx143_2⟩ := at_T32 (Kd.R_reads' HO_1.out).2.2 4 p143 q143
                        obtain rfl : ad142 = ad143 := (by injection e143)
                        (try simp only [show (4 : Int).toNat = 4 from rfl, Nat.reduceMul, Nat.reduceEqDiff, Go.Addr.add, ↓reduceIte] at hx143_0)
                        (try simp only [show (4 : Int).toNat = 4 from rfl, Nat.reduceMul, Nat.reduceEqDiff, Go.Addr.add, ↓reduceIte] at hx143_1)
                        (try simp only [show (4 : Int).toNat = 4 from rfl, Nat.reduceMul, Nat.reduceEqDiff, Go.Addr.add, ↓reduceIte] at hx143_2)
                        have qi143 : (4 < t124.length) = True := eq_true (by omega)
                        (try rw [show ((4 : Int)).toNat = 4 from rfl] at hx143_0)
                        (try rw [show 4 * 3 = 12 from rfl] at hx143_0)
                        (try rw [show ((4 : Int)).toNat = 4 from rfl] at hx143_1)
                        (try rw [show 4 * 3 = 12 from rfl] at hx143_1)
                        (try rw [show ((4 : Int)).toNat = 4 from rfl] at hx143_2)
                        (try rw [show 4 * 3 = 12 from rfl] at hx143_2)
                        replace p143 := eq_true p143
                        replace q143 := eq_true q143
                        obtain ⟨Ao71, co71, eo71⟩ := Kd.R_slice HO_5.out
                        subst eo71
                        have p144 : 0 ≤ (0 : Int) := (by omega)
                        have q144 : 0 < (t136.length : Int) := of_decide_eq_true (by first | (with_reducible assumption) | assumption)
                        obtain ⟨ad144, e144, hx144_0, hx144_1, hx144_2⟩ := at_T32 (Kd.R_reads' HO_5.out).2.2 0 p144 q144
                        cases e144
                        have qi144 : (0 < t136.length) = True := eq_true (by omega)
                        (try rw [show ((0 : Int)).toNat = 0 from rfl] at hx144_0)
                        (try rw [show 0 * 3 = 0 from rfl] at hx144_0)
                        (try rw [Addr.add_zero'] at hx144_0)
                        (try rw [show ((0 : Int)).toNat = 0 from rfl] at hx144_1)
                        (try rw [show 0 * 3 = 0 from rfl] at hx144_1)
                        (try rw [Addr.add_zero'] at hx144_1)
                        (try rw [show ((0 : Int)).toNat = 0 from rfl] at hx144_2)
                        (try rw [show 0 * 3 = 0 from rfl] at hx144_2)
                        (try rw [Addr.add_zero'] at hx144_2)
                        replace p144 := eq_true p144
                        replace q144 := eq_true q144
                        have p145 : 0 ≤ (1 : Int) := (by omega)
                        have q145 : 1 < (t136.length : Int) := of_decide_eq_true (by first | (with_reducible assumption) | assumption)
                        obtain ⟨ad145, e145, hx145_0, hx145_1, hx145_2⟩ := at_T32 (Kd.R_reads' HO_5.out).2.2 1 p145 q145
                        obtain rfl : ad144 = ad145 := (by injection e145)
                        (try simp only [show (1 : Int).toNat = 1 from rfl, Nat.reduceMul, Nat.reduceEqDiff, Go.Addr.add, ↓reduceIte] at hx145_0)
                        (try simp only [show (1 : Int).toNat = 1 from rfl, Nat.reduceMul, Nat.reduceEqDiff, Go.Addr.add, ↓reduceIte] at hx145_1)
                        (try simp only [show (1 : Int).toNat = 1 from rfl, Nat.reduceMul, Nat.reduceEqDiff, Go.Addr.add, ↓reduceIte] at hx145_2)
                        have qi145 : (1 < t136.length) = True := eq_true (by omega)
                        (try rw [show ((1 : Int)).toNat = 1 from rfl] at hx145_0)
                        (try rw [show 1 * 3 = 3 from rfl] at hx145_0)
                        (try rw [show ((1 : Int)).toNat = 1 from rfl] at hx145_1)
                        (try rw [show 1 * 3 = 3 from rfl] at hx145_1)
                        (try rw [show ((1 : Int)).toNat = 1 from rfl] at hx145_2)
                        (try rw [show 1 * 3 = 3 from rfl] at hx145_2)
                        replace p145 := eq_true p145
                        replace q145 := eq_true q145
                        go_wp2
                        go_ret
                        exact ⟨by first | rfl | (simp [errW_none, errW_some] <;> rfl) | (simp [*, errW_none, errW_some] <;> rfl), by repeat (first | (with_reducible first | exact HB.out | apply below_alloc | apply pw_below_drewN | apply below_drew1 | refine below_set ?_ GE129.out | refine below_set ?_ GE135.out | refine below_set ?_ GE141.out) | exact HB.out)⟩
                    · rw [if_neg c57] at H
                      exact absurd H (by simp)
                  · rw [if_neg c56] at H
                    have c56b0 : (((rd_T32 t136 0).f1).toList == ([0, 255] : List UInt8)) = false := beq_eq_false_iff_ne.mpr c56
                    have c56b1 : (((rd_T32 t136 0).f1).toList != ([0, 255] : List UInt8)) = true := bne_iff_ne.mpr c56
                    obtain rfl := Option.some.inj H
                    obtain ⟨Ao72, co72, eo72⟩ := Kd.R_slice HO_1.out
                    subst eo72
                    have p142 : 0 ≤ (3 : Int) := (by omega)
                    have q142 : 3 < (t124.length : Int) := of_decide_eq_true (by first | (with_reducible assumption) | assumption)
                    obtain ⟨ad142, e142, hx142_0, hx142_1, hx142_2⟩ := at_T32 (Kd.R_reads' HO_1.out).2.2 3 p142 q142
                    cases e142
                    (try simp only [show (3 : Int).toNat = 3 from rfl, Nat.reduceMul, Nat.reduceEqDiff, Go.Addr.add, ↓reduceIte] at hx142_0)
                    (try simp only [show (3 : Int).toNat = 3 from rfl, Nat.reduceMul, Nat.reduceEqDiff, Go.Addr.add, ↓reduceIte] at hx142_1)
                    (try simp only [show (3 : Int).toNat = 3 from rfl, Nat.reduceMul, Nat.reduceEqDiff, Go.Addr.add, ↓reduceIte] at hx142_2)
                    have qi142 : (3 < t124.length) = True := eq_true (by omega)
                    (try rw [show ((3 : Int)).toNat = 3 from rfl] at hx142_0)
                    (try rw [show 3 * 3 = 9 from rfl] at hx142_0)
                    (try rw [show ((3 : Int)).toNat = 3 from rfl] at hx142_1)
                    (try rw [show 3 * 3 = 9 from rfl] at hx142_1)
                    (try rw [show ((3 : Int)).toNat = 3 from rfl] at hx142_2)
                    (try rw [show 3 * 3 = 9 from rfl] at hx142_2)
                    replace p142 := eq_true p142
                    replace q142 := eq_true q142
                    have p143 : 0 ≤ (4 : Int) := (by omega)
                    have q143 : 4 < (t124.length : Int) := of_decide_eq_true (by first | (with_reducible assumption) | assumption)
                    obtain ⟨ad143, e143, hx143_0, hx143_1, hx143_2⟩ := at_T32 (Kd.R_reads' HO_1.out).2.2 4 p143 q143
                    obtain rfl : ad142 = ad143 := (by injection e143)
                    (try simp only [show (4 : Int).toNat = 4 from rfl, Nat.reduceMul, Nat.reduceEqDiff, Go.Addr.add, ↓reduceIte] at hx143_0)
                    (try simp only [show (4 : Int).toNat = 4 from rfl, Nat.reduceMul, Nat.reduceEqDiff, Go.Addr.add, ↓reduceIte] at hx143_1)
                    (try simp only [show (4 : Int).toNat = 4 from rfl, Nat.reduceMul, Nat.reduceEqDiff, Go.Addr.add, ↓reduceIte] at hx143_2)
                    have qi143 : (4 < t124.length) = True := eq_true (by omega)
                    (try rw [show ((4 : Int)).toNat = 4 from rfl] at hx143_0)
                    (try rw [show 4 * 3 = 12 from rfl] at hx143_0)
                    (try rw [show ((4 : Int)).toNat = 4 from rfl] at hx143_1)
                    (try rw [show 4 * 3 = 12 from rfl] at hx143_1)
                    (try rw [show ((4 : Int)).toNat = 4 from rfl] at hx143_2)
                    (try rw [show 4 * 3 = 12 from rfl] at hx143_2)
                    replace p143 := eq_true p143
                    replace q143 := eq_true q143
                    obtain ⟨Ao73, co73, eo73⟩ := Kd.R_slice HO_5.out
                    subst eo73
                    have p144 : 0 ≤ (0 : Int) := (by omega)
                    have q144 : 0 < (t136.length : Int) := of_decide_eq_true (by first | (with_reducible assumption) | assumption)
                    obtain ⟨ad144, e144, hx144_0, hx144_1, hx144_2⟩ := at_T32 (Kd.R_reads' HO_5.out).2.2 0 p144 q144
                    cases e144
                    have qi144 : (0 < t136.length) = True := eq_true (by omega)
                    (try rw [show ((0 : Int)).toNat = 0 from rfl] at hx144_0)
                    (try rw [show 0 * 3 = 0 from rfl] at hx144_0)
                    (try rw [Addr.add_zero'] at hx144_0)
                    (try rw [show ((0 : Int)).toNat = 0 from rfl] at hx144_1)
                    (try rw [show 0 * 3 = 0 from rfl] at hx144_1)
                    (try rw [Addr.add_zero'] at hx144_1)
                    (try rw [show ((0 : Int)).toNat = 0 from rfl] at hx144_2)
                    (try rw [show 0 * 3 = 0 from rfl] at hx144_2)
                    (try rw [Addr.add_zero'] at hx144_2)
                    replace p144 := eq_true p144
                    replace q144 := eq_true q144
                    go_wp2
                    go_ret
                    exact ⟨by first | rfl | (simp [errW_none, errW_some] <;> rfl) | (simp [*, errW_none, errW_some] <;> rfl), by repeat (first | (with_reducible first | exact HB.out | apply below_alloc | apply pw_below_drewN | apply below_drew1 | refine below_set ?_ GE129.out | refine below_set ?_ GE135.out | refine below_set ?_ GE141.out) | exact HB.out)⟩
                · rw [if_neg c55] at H
                  exact absurd H (by simp)
              · rw [if_neg c54] at H
                have c54b0 : (((rd_T32 t124 4).f0) == 3 && ((((rd_T32 t124 4).f1).toList) == ([105, 116, 39, 115] : List UInt8) && (((rd_T32 t124 4).f2) == 5))) = false := by simpa using c54
                (try (have c54b1 : decide (((rd_T32 t124 4).f0) = 3 && ((((rd_T32 t124 4).f1).toList) == ([105, 116, 39, 115] : List UInt8) && (((rd_T32 t124 4).f2) == 5))) = false := by simpa using c54))
                (try (have c54b2 : (((rd_T32 t124 4).f0) == 3 && ((((rd_T32 t124 4).f1).toList) == ([105, 116, 39, 115] : List UInt8) && (((rd_T32 t124 4).f2) == 5))) = false := by simpa using c54))
                (try (have c54b3 : ¬ (((rd_T32 t124 4).f0) = 3 && ((((rd_T32 t124 4).f1).toList) == ([105, 116, 39, 115] : List UInt8) && (((rd_T32 t124 4).f2) == 5))) := by simpa using c54))
                clear c54
                obtain rfl := Option.some.inj H
                obtain ⟨Ao74, co74, eo74⟩ := Kd.R_slice HO_1.out
                subst eo74
                have p142 : 0 ≤ (3 : Int) := (by omega)
                have q142 : 3 < (t124.length : Int) := of_decide_eq_true (by first | (with_reducible assumption) | assumption)
                obtain ⟨ad142, e142, hx142_0, hx142_1, hx142_2⟩ := at_T32 (Kd.R_reads' HO_1.out).2.2 3 p142 q142
                cases e142
                (try simp only [show (3 : Int).toNat = 3 from rfl, Nat.reduceMul, Nat.reduceEqDiff, Go.Addr.add, ↓reduceIte] at hx142_0)
                (try simp only [show (3 : Int).toNat = 3 from rfl, Nat.reduceMul, Nat.reduceEqDiff, Go.Addr.add, ↓reduceIte] at hx142_1)
                (try simp only [show (3 : Int).toNat = 3 from rfl, Nat.reduceMul, Nat.reduceEqDiff, Go.Addr.add, ↓reduceIte] at hx142_2)
                have qi142 : (3 < t124.length) = True := eq_true (by omega)
                (try rw [show ((3 : Int)).toNat = 3 from rfl] at hx142_0)
                (try rw [show 3 * 3 = 9 from rfl] at hx142_0)
                (try rw [show ((3 : Int)).toNat = 3 from rfl] at hx142_1)
                (try rw [show 3 * 3 = 9 from rfl] at hx142_1)
                (try rw [show ((3 : Int)).toNat = 3 from rfl] at hx142_2)
                (try rw [show 3 * 3 = 9 from rfl] at hx142_2)
                replace p142 := eq_true p142
                replace q142 := eq_true q142
                have p143 : 0 ≤ (4 : Int) := (by omega)
                have q143 : 4 < (t124.length : Int) := of_decide_eq_true (by first | (with_reducible assumption) | assumption)
                obtain ⟨ad143, e143, hx143_0, hx143_1, hx143_2⟩ := at_T32 (Kd.R_reads' HO_1.out).2.2 4 p143 q143
                obtain rfl : ad142 = ad143 := (by injection e143)
                (try simp only [show (4 : Int).toNat = 4 from rfl, Nat.reduceMul, Nat.reduceEqDiff, Go.Addr.add, ↓reduceIte] at hx143_0)
                (try simp only [show (4 : Int).toNat = 4 from rfl, Nat.reduceMul, Nat.reduceEqDiff, Go.Addr.add, ↓reduceIte] at hx143_1)
                (try simp only [show (4 : Int).toNat = 4 from rfl, Nat.reduceMul, Nat.reduceEqDiff, Go.Addr.add, ↓reduceIte] at hx143_2)
                have qi143 : (4 < t124.length) = True := eq_true (by omega)
                (try rw [show ((4 : Int)).toNat = 4 from rfl] at hx143_0)
                (try rw [show 4 * 3 = 12 from rfl] at hx143_0)
                (try rw [show ((4 : Int)).toNat = 4 from rfl] at hx143_1)
                (try rw [show 4 * 3 = 12 from rfl] at hx143_1)
                (try rw [show ((4 : Int)).toNat = 4 from rfl] at hx143_2)
                (try rw [show 4 * 3 = 12 from rfl] at hx143_2)
                replace p143 := eq_true p143
                replace q143 := eq_true q143
                go_wp2
                go_ret
                exact ⟨by first | rfl | (simp [errW_none, errW_some] <;> rfl) | (simp [*, errW_none, errW_some] <;> rfl), by repeat (first | (with_reducible first | exact HB.out | apply below_alloc | apply pw_below_drewN | apply below_drew1 | refine below_set ?_ GE129.out | refine below_set ?_ GE135.out | refine below_set ?_ GE141.out) | exact HB.out)⟩
            · rw [if_neg c53] at H
              exact absurd H (by simp)
          · rw [if_neg c52] at H
            have c52b0 : (((rd_T32 t124 3).f0) == 5 && ((((rd_T32 t124 3).f1).toList) == ([60, 62] : List UInt8) && (((rd_T32 t124 3).f2) == 3))) = false := by simpa using c52
            (try (have c52b1 : decide (((rd_T32 t124 3).f0) = 5 && ((((rd_T32 t124 3).f1).toList) == ([60, 62] : List UInt8) && (((rd_T32 t124 3).f2) == 3))) = false := by simpa using c52))
            (try (have c52b2 : (((rd_T32 t124 3).f0) == 5 && ((((rd_T32 t124 3).f1).toList) == ([60, 62] : List UInt8) && (((rd_T32 t124 3).f2) == 3))) = false := by simpa using c52))
            (try (have c52b3 : ¬ (((rd_T32 t124 3).f0) = 5 && ((((rd_T32 t124 3).f1).toList) == ([60, 62] : List UInt8) && (((rd_T32 t124 3).f2) == 3))) := by simpa using c52))
            clear c52
            obtain rfl := Option.some.inj H
            obtain ⟨Ao75, co75, eo75⟩ := Kd.R_slice HO_1.out
            subst eo75
            have p142 : 0 ≤ (3 : Int) := (by omega)
            have q142 : 3 < (t124.length : Int) := of_decide_eq_true (by first | (with_reducible assumption) | assumption)
            obtain ⟨ad142, e142, hx142_0, hx142_1, hx142_2⟩ := at_T32 (Kd.R_reads' HO_1.out).2.2 3 p142 q142
            cases e142
            (try simp only [show (3 : Int).toNat = 3 from rfl, Nat.reduceMul, Nat.reduceEqDiff, Go.Addr.add, ↓reduceIte] at hx142_0)
            (try simp only [show (3 : Int).toNat = 3 from rfl, Nat.reduceMul, Nat.reduceEqDiff, Go.Addr.add, ↓reduceIte] at hx142_1)
            (try simp only [show (3 : Int).toNat = 3 from rfl, Nat.reduceMul, Nat.reduceEqDiff, Go.Addr.add, ↓reduceIte] at hx142_2)
            have qi142 : (3 < t124.length) = True := eq_true (by omega)
            (try rw [show ((3 : Int)).toNat = 3 from rfl] at hx142_0)
            (try rw [show 3 * 3 = 9 from rfl] at hx142_0)
            (try rw [show ((3 : Int)).toNat = 3 from rfl] at hx142_1)
            (try rw [show 3 * 3 = 9 from rfl] at hx142_1)
            (try rw [show ((3 : Int)).toNat = 3 from rfl] at hx142_2)
            (try rw [show 3 * 3 = 9 from rfl] at hx142_2)
            replace p142 := eq_true p142
            replace q142 := eq_true q142
            go_wp2
            go_ret
            exact ⟨by first | rfl | (simp [errW_none, errW_some] <;> rfl) | (simp [*, errW_none, errW_some] <;> rfl), by repeat (first | (with_reducible first | exact HB.out | apply below_alloc | apply pw_below_drewN | apply below_drew1 | refine below_set ?_ GE129.out | refine below_set ?_ GE135.out | refine below_set ?_ GE141.out) | exact HB.out)⟩
        · rw [if_neg c51] at H
          exact absurd H (by simp)

end Go.Proofs.YtnmdlimpfckicaaDoor.Q

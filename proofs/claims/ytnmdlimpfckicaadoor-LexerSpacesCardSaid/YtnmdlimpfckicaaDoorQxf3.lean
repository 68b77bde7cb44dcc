-- By a program of this session (wip/printx.py) out of the translation. Not trusted: Lean checks it.
import Derived.Test.YtnmdlimpfckicaaDoorS
import Derived.Test.YtnmdlimpfckicaaDoorU
import Derived.Test.YtnmdlimpfckicaaDoorQx0
import Derived.Test.YtnmdlimpfckicaaDoorQxec0f5a5
import Derived.Test.YtnmdlimpfckicaaDoorQxf4
import Derived.Test.YtnmdlimpfckicaaDoorQxf5
import Derived.Test.YtnmdlimpfckicaaDoorQxf7
import Derived.Test.YtnmdlimpfckicaaDoorRa
namespace Go.Proofs.YtnmdlimpfckicaaDoor.Q
open Go.Proofs.YtnmdlimpfckicaaDoor.S
open Go.Proofs.YtnmdlimpfckicaaDoor.Ra
open Go.RowKit Go.Proofs.YtnmdlimpfckicaaDoorW.PrintWords Go.Proofs.YtnmdlimpfckicaaDoorW.PrintLast Go.Proofs.YtnmdlimpfckicaaDoorW.PrintMore
attribute [local go_sem] Go.Proofs.YtnmdlimpfckicaaDoor.U.cell_twice
attribute [local go_sem] max2_int min2_int max_two min_two max_three min_three max_four min_four   -- for this text's walks alone
set_option linter.unusedVariables false
set_option linter.unusedSimpArgs false

attribute [local go_sem high] eqA25
/-! ### chancerylaw19_LexerSpaces: function 3 -/
mutual
def chancerylaw19_LexerSpaces.j0 : Nat → ByteArray → ByteArray → List (S32) → Bool → Option (Bool)
  | 0, _, _, _, _ => none
  | k + 1, x0, x1, x5, x34 => if x34 = true then ((chancerylaw19_awake.f k).bind fun t159 => (some t159)) else ((strings_ReplaceAll.f x1 (⟨#[10]⟩ : ByteArray) (⟨#[32]⟩ : ByteArray)).bind fun t160 => (chancerylaw19_LexerSpaces.l0 k x0 t160 x5 (⟨#[]⟩ : ByteArray) 0))
def chancerylaw19_LexerSpaces.l0 : Nat → ByteArray → ByteArray → List (S32) → ByteArray → Int → Option (Bool)
  | 0, _, _, _, _, _ => none
  | k + 1, x0, x1, x5, x7, x8 => if x8 < (x5.length : Int) then (if (wrap64 (x8 + 1)) < (x5.length : Int) then (if 0 ≤ (wrap64 (x8 + 1)) then (if x7.size + 4 ≤ 9223372036854775807 then (if (x7 ++ (⟨#[9, 32, 45, 45]⟩ : ByteArray)).size + x1.size ≤ 9223372036854775807 then (if ((x7 ++ (⟨#[9, 32, 45, 45]⟩ : ByteArray)) ++ x1).size + 2 ≤ 9223372036854775807 then (if 0 ≤ x8 then (if 0 ≤ ((rd_T32 x5 x8).f2) then (if ((rd_T32 x5 x8).f2) ≤ ((rd_T32 x5 (wrap64 (x8 + 1))).f2) then (if ((rd_T32 x5 (wrap64 (x8 + 1))).f2) ≤ (x0.size : Int) then (if (((x7 ++ (⟨#[9, 32, 45, 45]⟩ : ByteArray)) ++ x1) ++ (⟨#[10, 32]⟩ : ByteArray)).size + (x0.extract (((rd_T32 x5 x8).f2) : Int).toNat (((rd_T32 x5 (wrap64 (x8 + 1))).f2) : Int).toNat).size ≤ 9223372036854775807 then (chancerylaw19_LexerSpaces.l0 k x0 x1 x5 ((((x7 ++ (⟨#[9, 32, 45, 45]⟩ : ByteArray)) ++ x1) ++ (⟨#[10, 32]⟩ : ByteArray)) ++ (x0.extract (((rd_T32 x5 x8).f2) : Int).toNat (((rd_T32 x5 (wrap64 (x8 + 1))).f2) : Int).toNat)) (wrap64 (x8 + 1))) else (none)) else (none)) else (none)) else (none)) else (none)) else (none)) else (none)) else (none)) else (none)) else (if x7.size + 4 ≤ 9223372036854775807 then (if (x7 ++ (⟨#[9, 32, 45, 45]⟩ : ByteArray)).size + x1.size ≤ 9223372036854775807 then (if ((x7 ++ (⟨#[9, 32, 45, 45]⟩ : ByteArray)) ++ x1).size + 2 ≤ 9223372036854775807 then (if 0 ≤ x8 then (if 0 ≤ ((rd_T32 x5 x8).f2) then (if ((rd_T32 x5 x8).f2) ≤ (x0.size : Int) then (if (x0.size : Int) ≤ (x0.size : Int) then (if (((x7 ++ (⟨#[9, 32, 45, 45]⟩ : ByteArray)) ++ x1) ++ (⟨#[10, 32]⟩ : ByteArray)).size + (x0.extract (((rd_T32 x5 x8).f2) : Int).toNat ((x0.size : Int) : Int).toNat).size ≤ 9223372036854775807 then (chancerylaw19_LexerSpaces.l0 k x0 x1 x5 ((((x7 ++ (⟨#[9, 32, 45, 45]⟩ : ByteArray)) ++ x1) ++ (⟨#[10, 32]⟩ : ByteArray)) ++ (x0.extract (((rd_T32 x5 x8).f2) : Int).toNat ((x0.size : Int) : Int).toNat)) (wrap64 (x8 + 1))) else (none)) else (none)) else (none)) else (none)) else (none)) else (none)) else (none)) else (none))) else ((lexer_Tokens.f k x7).bind fun bt164 => (if (x7.size : Int) > 4096 then (if (bt164.2.1 == 3 && (bt164.2.2 == 0)) = true then ((chancerylaw19_awake.f k).bind fun t170 => (some t170)) else (some false)) else (if (bt164.2.1 == 0 && (bt164.2.2 == 0)) = true then ((chancerylaw19_same.f k x5 bt164.1).bind fun t171 => (if t171 = true then ((chancerylaw19_awake.f k).bind fun t172 => (some t172)) else (some false))) else (some false))))
end
def chancerylaw19_LexerSpaces.f (k : Nat) (a0 : ByteArray) (a1 : ByteArray) : Option (Bool) := (lexer_Tokens.f k a0).bind fun bt153 => (if (!(bt153.2.1 == 0) || (!(bt153.2.2 == 0))) = true then (chancerylaw19_LexerSpaces.j0 k a0 a1 bt153.1 true) else (if (a0.size : Int) > 300 then (chancerylaw19_LexerSpaces.j0 k a0 a1 bt153.1 true) else (if (a1.size : Int) > 10 then (chancerylaw19_LexerSpaces.j0 k a0 a1 bt153.1 true) else (chancerylaw19_LexerSpaces.j0 k a0 a1 bt153.1 (decide ((bt153.1.length : Int) > 100))))))
theorem chancerylaw19_LexerSpaces.mono_l : ∀ k, (∀ y0 y1 y2 y3, LeO (chancerylaw19_LexerSpaces.j0 k y0 y1 y2 y3) (chancerylaw19_LexerSpaces.j0 (k + 1) y0 y1 y2 y3)) ∧ (∀ y0 y1 y2 y3 y4, LeO (chancerylaw19_LexerSpaces.l0 k y0 y1 y2 y3 y4) (chancerylaw19_LexerSpaces.l0 (k + 1) y0 y1 y2 y3 y4))
  | 0 => ⟨fun _ _ _ _ r h => by simp [chancerylaw19_LexerSpaces.j0] at h, fun _ _ _ _ _ r h => by simp [chancerylaw19_LexerSpaces.l0] at h⟩
  | k + 1 => by
    obtain ⟨ih0, ih1⟩ := chancerylaw19_LexerSpaces.mono_l k
    refine ⟨?_, ?_⟩
    · intro y0 y1 y2 y3
      unfold chancerylaw19_LexerSpaces.j0
      repeat' first
      | (with_reducible exact ih0 _ _ _ _)
      | (with_reducible exact ih1 _ _ _ _ _)
      | (with_reducible exact chancerylaw19_awake.mono _)
      | (with_reducible exact chancerylaw19_same.mono _ _ _)
      | (with_reducible exact lexer_Tokens.mono _ _)
      | (with_reducible exact LeO.refl _)
      | (with_reducible exact LeO.none _)
      | (with_reducible refine LeO.ite ?_ ?_)
      | (with_reducible refine LeO.bind ?_ (fun _ => ?_))
      | exact ih0 _ _ _ _
      | exact ih1 _ _ _ _ _
      | exact chancerylaw19_awake.mono _
      | exact chancerylaw19_same.mono _ _ _
      | exact lexer_Tokens.mono _ _
      | exact LeO.none _
      | refine LeO.ite ?_ ?_
      | refine LeO.bind ?_ (fun _ => ?_)
    · intro y0 y1 y2 y3 y4
      unfold chancerylaw19_LexerSpaces.l0
      repeat' first
      | (with_reducible exact ih0 _ _ _ _)
      | (with_reducible exact ih1 _ _ _ _ _)
      | (with_reducible exact chancerylaw19_awake.mono _)
      | (with_reducible exact chancerylaw19_same.mono _ _ _)
      | (with_reducible exact lexer_Tokens.mono _ _)
      | (with_reducible exact LeO.refl _)
      | (with_reducible exact LeO.none _)
      | (with_reducible refine LeO.ite ?_ ?_)
      | (with_reducible refine LeO.bind ?_ (fun _ => ?_))
      | exact ih0 _ _ _ _
      | exact ih1 _ _ _ _ _
      | exact chancerylaw19_awake.mono _
      | exact chancerylaw19_same.mono _ _ _
      | exact lexer_Tokens.mono _ _
      | exact LeO.none _
      | refine LeO.ite ?_ ?_
      | refine LeO.bind ?_ (fun _ => ?_)
theorem chancerylaw19_LexerSpaces.mono : ∀ a0 a1 k, LeO (chancerylaw19_LexerSpaces.f k a0 a1) (chancerylaw19_LexerSpaces.f (k + 1) a0 a1) := by
  intro a0 a1 k
  obtain ⟨ih0, ih1⟩ := chancerylaw19_LexerSpaces.mono_l k
  unfold chancerylaw19_LexerSpaces.f
  repeat' first
      | (with_reducible exact ih0 _ _ _ _)
      | (with_reducible exact ih1 _ _ _ _ _)
      | (with_reducible exact chancerylaw19_awake.mono _)
      | (with_reducible exact chancerylaw19_same.mono _ _ _)
      | (with_reducible exact lexer_Tokens.mono _ _)
      | (with_reducible exact LeO.refl _)
      | (with_reducible exact LeO.none _)
      | (with_reducible refine LeO.ite ?_ ?_)
      | (with_reducible refine LeO.bind ?_ (fun _ => ?_))
      | exact ih0 _ _ _ _
      | exact ih1 _ _ _ _ _
      | exact chancerylaw19_awake.mono _
      | exact chancerylaw19_same.mono _ _ _
      | exact lexer_Tokens.mono _ _
      | exact LeO.none _
      | refine LeO.ite ?_ ?_
      | refine LeO.bind ?_ (fun _ => ?_)
set_option maxHeartbeats 8000000 in
set_option maxRecDepth 100000 in
theorem chancerylaw19_LexerSpaces.calls (k : Nat) (a0 : ByteArray) (a1 : ByteArray) (r : Bool) (w : World) (h : chancerylaw19_LexerSpaces.f k a0 a1 = some r) (hg : GlobOK w) :
    Calls Tryd.prog 3 #[.string a0, .string a1] w fun e w' => e = .returned (.bool r) ∧ Below w.heap.size w w' := by
  have HG := Aside0.mk hg
  clear hg
  have hu25 := Tryd.underlying25
  have HB := Aside0.mk (Below.refl w.heap.size w)
  have H : ((lexer_Tokens.f k a0).bind fun bt153 => (if (!(bt153.2.1 == 0) || (!(bt153.2.2 == 0))) = true then (chancerylaw19_LexerSpaces.j0 k a0 a1 bt153.1 true) else (if (a0.size : Int) > 300 then (chancerylaw19_LexerSpaces.j0 k a0 a1 bt153.1 true) else (if (a1.size : Int) > 10 then (chancerylaw19_LexerSpaces.j0 k a0 a1 bt153.1 true) else (chancerylaw19_LexerSpaces.j0 k a0 a1 bt153.1 (decide ((bt153.1.length : Int) > 100))))))) = some r := h
  clear h
  replace H := Option.bind_eq_some_iff.mp H
  obtain ⟨⟨t153, t156, t157⟩, A30, H⟩ := H
  replace H : (if (!(t156 == 0) || (!(t157 == 0))) = true then (chancerylaw19_LexerSpaces.j0 k a0 a1 t153 true) else (if (a0.size : Int) > 300 then (chancerylaw19_LexerSpaces.j0 k a0 a1 t153 true) else (if (a1.size : Int) > 10 then (chancerylaw19_LexerSpaces.j0 k a0 a1 t153 true) else (chancerylaw19_LexerSpaces.j0 k a0 a1 t153 (decide ((t153.length : Int) > 100)))))) = some r := H
  have A3 := Aside0.mk A30
  clear A30
  have HC4 := Aside0.mk H
  clear H
  go_enter Tryd.func3, Tryd.ntmps3
  go_upto_region 2 with (first | ((with_reducible refine gate_callee (f := 4) rfl ?_); refine goesL_ (some 14) rfl rfl Tryd.func4 (by kernel_rfl) rfl #[.string a0] rfl (by (try simp only [List.map_toArray, List.map_cons, List.map_nil]); first | done | rfl | (simp only [List.length_drop, List.length_take]; rfl)) ?_; (with_reducible refine (lexer_Tokens.calls k a0 t153 t156 t157 _ A3.out).mono ?_); rintro e w5 ⟨v154, rfl, ho0, hb⟩; refine ⟨_, rfl, ?_⟩; have n0_ := Aside0.mk (Kd.R_lower ho0 (below_size (by repeat (first | (with_reducible first | exact HB.out | apply below_alloc | apply pw_below_drewN | apply below_drew1) | exact HB.out)))); have n1_ := Aside0.mk (below_step (by repeat (first | (with_reducible first | exact HB.out | apply below_alloc | apply pw_below_drewN | apply below_drew1) | exact HB.out)) hb); clear HB; have HO155 := n0_; have HB := n1_; clear n0_ n1_; (try clear hb); (try clear hb2); (try clear hk); (try clear hi); (try clear ho0)) | ((with_reducible refine gate_dst (N := 6) rfl ?_); (try (refine gate_guard (by rfl) ?_; dsimp only)); refine box_event ?hg (N := 6) ?hd (cs := #[.int .i64 0, .int .i64 0]) (t := 25) ?hr ?_; (case hd => rfl); (case hg => rfl); (case hr => first | (go_simp; done) | (go_simp; rfl)); intro gb158 hg w6 hbox hb; have n0_ := Aside0.mk (Kd.R_below (by (with_reducible repeat (first | apply Kd.R_alloc | apply Kd.R_drewN | apply Kd.R_drew)); exact HO155.out) hb); have n1_ := Aside0.mk (below_step (by repeat (first | (with_reducible first | exact HB.out | apply below_alloc | apply pw_below_drewN | apply below_drew1) | exact HB.out)) hb); have n2_ := Aside0.mk (hbox); have n3_ := Aside0.mk ((by rw [hg]; exact (below_size (by repeat (first | (with_reducible first | exact HB.out | apply below_alloc | apply pw_below_drewN | apply below_drew1) | exact HB.out))) : w.heap.size ≤ gb158)); have n4_ := Aside0.mk ((by rw [hg]; exact (below_size (by repeat (first | (with_reducible first | exact HB.out | apply below_alloc | apply pw_below_drewN | apply below_drew1) | exact HB.out))) : w.heap.size ≤ gb158)); clear HO155; clear HB; have HO155 := n0_; have HB := n1_; have BK158 := n2_; have GW158 := n3_; have GE158 := n4_; clear n0_ n1_ n2_ n3_ n4_; clear hb hbox hg; have hcz7_0 : w6.cell? ⟨gb158, 0, none⟩ = some (.int .i64 0) := (blk_cell BK158.out 0).trans rfl; have hcz7_1 : w6.cell? ⟨gb158, 1, none⟩ = some (.int .i64 0) := (blk_cell BK158.out 1).trans rfl; have hfz7_0 := blk_frozen BK158.out 0; have hfz7_1 := blk_frozen BK158.out 1))
  (try simp only [Act.put, List.setIfInBounds_toArray, List.set_cons_zero, List.set_cons_succ])
  go_cut [34] (fun v34 wc => ∃ (kq : Nat) (x34_3 : Bool), v34 = .bool x34_3 ∧ Aside0 (chancerylaw19_LexerSpaces.j0 kq a0 a1 t153 x34_3 = some r) ∧ Aside0 (kq ≤ k) ∧ Aside0 (Kd.R k32 32 wc w.heap.size (fun _ => True) v154 t153) ∧ Aside0 (wc.heap[gb158]? = some (.cells #[.int .i64 t156, .int .i64 t157] 25 (0, 0))) ∧ Aside0 (Below w.heap.size w wc))
  case first =>
    have H := HC4.out
    clear HC4
    by_cases c8 : (!(t156 == 0) || (!(t157 == 0))) = true
    · rw [if_pos c8] at H
      have c8b0 : (!(t156 == 0) || (!(t157 == 0))) = true := c8
      clear c8
      (first | rw [c8b0] | (simp only [i64_w, i32_w]; rw [c8b0]) | skip)
      have H' := Aside0.mk H
      clear H
      have hcz9_0 : w6.cell? ⟨gb158, 0, none⟩ = some (.int .i64 0) := (blk_cell BK158.out 0).trans rfl
      have hcz9_1 : w6.cell? ⟨gb158, 1, none⟩ = some (.int .i64 0) := (blk_cell BK158.out 1).trans rfl
      have hfz9_0 := blk_frozen BK158.out 0
      have hfz9_1 := blk_frozen BK158.out 1
      go_wp2
      go_meet
      case rel => exact ⟨_, (true), (by first | rfl | (simp; done) | (simp [*]; done)), H', ⟨by first | omega | exact Nat.le_refl _⟩, ⟨by (with_reducible repeat (first | apply Kd.R_alloc | apply Kd.R_drewN | apply Kd.R_drew)); exact Kd.R_mono (Kd.R_far (p := ⟨gb158, 1, none⟩) (Kd.R_far (p := ⟨gb158, 0, none⟩) (Kd.R_types HO155.out BK158.out (by decide)) (fun _ hk => hk.2) (.int .i64 t156)) (fun _ hk => hk.2) (.int .i64 t157)) (fun _ hk => trivial)⟩, ⟨by (with_reducible repeat (first | refine blk_drewN ?_ _ | refine blk_drew ?_ | refine blk_alloc ?_ _)); refine blk_put (cs := #[.int .i64 t156, .int .i64 0]) ?_ 1 _ rfl; (with_reducible repeat (first | refine blk_drewN ?_ _ | refine blk_drew ?_ | refine blk_alloc ?_ _)); refine blk_put (cs := #[.int .i64 0, .int .i64 0]) ?_ 0 _ rfl; (with_reducible repeat (first | refine blk_drewN ?_ _ | refine blk_drew ?_ | refine blk_alloc ?_ _)); exact BK158.out⟩, ⟨by repeat (first | (with_reducible first | exact HB.out | apply below_alloc | apply pw_below_drewN | apply below_drew1 | refine below_set ?_ GE158.out) | exact HB.out)⟩⟩
    · rw [if_neg c8] at H
      have c8b0 : (!(t156 == 0) || (!(t157 == 0))) = false := by simpa using c8
      clear c8
      (first | rw [c8b0] | (simp only [i64_w, i32_w]; rw [c8b0]) | skip)
      by_cases c10 : (a0.size : Int) > 300
      · rw [if_pos c10] at H
        have c10b0 : decide (300 < (a0.size : Int)) = true := decide_eq_true c10
        have c10b1 : decide (300 < a0.size) = true := decide_eq_true (by omega)
        clear c10
        have H' := Aside0.mk H
        clear H
        have hcz11_0 : w6.cell? ⟨gb158, 0, none⟩ = some (.int .i64 0) := (blk_cell BK158.out 0).trans rfl
        have hcz11_1 : w6.cell? ⟨gb158, 1, none⟩ = some (.int .i64 0) := (blk_cell BK158.out 1).trans rfl
        have hfz11_0 := blk_frozen BK158.out 0
        have hfz11_1 := blk_frozen BK158.out 1
        go_wp2
        go_meet
        case rel => exact ⟨_, (true), (by first | rfl | (simp; done) | (simp [*]; done)), H', ⟨by first | omega | exact Nat.le_refl _⟩, ⟨by (with_reducible repeat (first | apply Kd.R_alloc | apply Kd.R_drewN | apply Kd.R_drew)); exact Kd.R_mono (Kd.R_far (p := ⟨gb158, 1, none⟩) (Kd.R_far (p := ⟨gb158, 0, none⟩) (Kd.R_types HO155.out BK158.out (by decide)) (fun _ hk => hk.2) (.int .i64 t156)) (fun _ hk => hk.2) (.int .i64 t157)) (fun _ hk => trivial)⟩, ⟨by (with_reducible repeat (first | refine blk_drewN ?_ _ | refine blk_drew ?_ | refine blk_alloc ?_ _)); refine blk_put (cs := #[.int .i64 t156, .int .i64 0]) ?_ 1 _ rfl; (with_reducible repeat (first | refine blk_drewN ?_ _ | refine blk_drew ?_ | refine blk_alloc ?_ _)); refine blk_put (cs := #[.int .i64 0, .int .i64 0]) ?_ 0 _ rfl; (with_reducible repeat (first | refine blk_drewN ?_ _ | refine blk_drew ?_ | refine blk_alloc ?_ _)); exact BK158.out⟩, ⟨by repeat (first | (with_reducible first | exact HB.out | apply below_alloc | apply pw_below_drewN | apply below_drew1 | refine below_set ?_ GE158.out) | exact HB.out)⟩⟩
      · rw [if_neg c10] at H
        have c10b0 : decide (300 < (a0.size : Int)) = false := decide_eq_false c10
        have c10b1 : decide (300 < a0.size) = false := decide_eq_false (by omega)
        clear c10
        by_cases c12 : (a1.size : Int) > 10
        · rw [if_pos c12] at H
          have c12b0 : decide (10 < (a1.size : Int)) = true := decide_eq_true c12
          have c12b1 : decide (10 < a1.size) = true := decide_eq_true (by omega)
          clear c12
          have H' := Aside0.mk H
          clear H
          have hcz13_0 : w6.cell? ⟨gb158, 0, none⟩ = some (.int .i64 0) := (blk_cell BK158.out 0).trans rfl
          have hcz13_1 : w6.cell? ⟨gb158, 1, none⟩ = some (.int .i64 0) := (blk_cell BK158.out 1).trans rfl
          have hfz13_0 := blk_frozen BK158.out 0
          have hfz13_1 := blk_frozen BK158.out 1
          go_wp2
          go_meet
          case rel => exact ⟨_, (true), (by first | rfl | (simp; done) | (simp [*]; done)), H', ⟨by first | omega | exact Nat.le_refl _⟩, ⟨by (with_reducible repeat (first | apply Kd.R_alloc | apply Kd.R_drewN | apply Kd.R_drew)); exact Kd.R_mono (Kd.R_far (p := ⟨gb158, 1, none⟩) (Kd.R_far (p := ⟨gb158, 0, none⟩) (Kd.R_types HO155.out BK158.out (by decide)) (fun _ hk => hk.2) (.int .i64 t156)) (fun _ hk => hk.2) (.int .i64 t157)) (fun _ hk => trivial)⟩, ⟨by (with_reducible repeat (first | refine blk_drewN ?_ _ | refine blk_drew ?_ | refine blk_alloc ?_ _)); refine blk_put (cs := #[.int .i64 t156, .int .i64 0]) ?_ 1 _ rfl; (with_reducible repeat (first | refine blk_drewN ?_ _ | refine blk_drew ?_ | refine blk_alloc ?_ _)); refine blk_put (cs := #[.int .i64 0, .int .i64 0]) ?_ 0 _ rfl; (with_reducible repeat (first | refine blk_drewN ?_ _ | refine blk_drew ?_ | refine blk_alloc ?_ _)); exact BK158.out⟩, ⟨by repeat (first | (with_reducible first | exact HB.out | apply below_alloc | apply pw_below_drewN | apply below_drew1 | refine below_set ?_ GE158.out) | exact HB.out)⟩⟩
        · rw [if_neg c12] at H
          have c12b0 : decide (10 < (a1.size : Int)) = false := decide_eq_false c12
          have c12b1 : decide (10 < a1.size) = false := decide_eq_false (by omega)
          clear c12
          have H' := Aside0.mk H
          clear H
          have hcz14_0 : w6.cell? ⟨gb158, 0, none⟩ = some (.int .i64 0) := (blk_cell BK158.out 0).trans rfl
          have hcz14_1 : w6.cell? ⟨gb158, 1, none⟩ = some (.int .i64 0) := (blk_cell BK158.out 1).trans rfl
          have hfz14_0 := blk_frozen BK158.out 0
          have hfz14_1 := blk_frozen BK158.out 1
          obtain ⟨Ao15, co15, eo15⟩ := Kd.R_slice HO155.out
          subst eo15
          go_wp2
          go_meet
          case rel => exact ⟨_, (decide ((t153.length : Int) > 100)), (by first | rfl | (simp; done) | (simp [*]; done)), H', ⟨by first | omega | exact Nat.le_refl _⟩, ⟨by (with_reducible repeat (first | apply Kd.R_alloc | apply Kd.R_drewN | apply Kd.R_drew)); exact Kd.R_mono (Kd.R_far (p := ⟨gb158, 1, none⟩) (Kd.R_far (p := ⟨gb158, 0, none⟩) (Kd.R_types HO155.out BK158.out (by decide)) (fun _ hk => hk.2) (.int .i64 t156)) (fun _ hk => hk.2) (.int .i64 t157)) (fun _ hk => trivial)⟩, ⟨by (with_reducible repeat (first | refine blk_drewN ?_ _ | refine blk_drew ?_ | refine blk_alloc ?_ _)); refine blk_put (cs := #[.int .i64 t156, .int .i64 0]) ?_ 1 _ rfl; (with_reducible repeat (first | refine blk_drewN ?_ _ | refine blk_drew ?_ | refine blk_alloc ?_ _)); refine blk_put (cs := #[.int .i64 0, .int .i64 0]) ?_ 0 _ rfl; (with_reducible repeat (first | refine blk_drewN ?_ _ | refine blk_drew ?_ | refine blk_alloc ?_ _)); exact BK158.out⟩, ⟨by repeat (first | (with_reducible first | exact HB.out | apply below_alloc | apply pw_below_drewN | apply below_drew1 | refine below_set ?_ GE158.out) | exact HB.out)⟩⟩
  case rest =>
    clear HC4
    try clear c1
    try clear p2
    try clear c3
    try clear c4
    try clear c8
    try clear c8b0
    try clear c10
    try clear c10b0
    try clear c10b1
    try clear c12
    try clear c12b0
    try clear c12b1
    try clear hcz11_0
    try clear hcz11_1
    try clear hcz13_0
    try clear hcz13_1
    try clear hcz14_0
    try clear hcz14_1
    try clear hcz7_0
    try clear hcz7_1
    try clear hcz9_0
    try clear hcz9_1
    try clear hfz11_0
    try clear hfz11_1
    try clear hfz13_0
    try clear hfz13_1
    try clear hfz14_0
    try clear hfz14_1
    try clear hfz7_0
    try clear hfz7_1
    try clear hfz9_0
    try clear hfz9_1
    obtain ⟨kq, x34_3, rfl, HA, HJ3, HO_5, BK158, HB⟩ := hcut
    cases kq with
    | zero => exact absurd HA.out (by simp [chancerylaw19_LexerSpaces.j0])
    | succ kj3 =>
      have H := HA.out
      clear HA
      simp only [chancerylaw19_LexerSpaces.j0] at H
      by_cases c16 : x34_3 = true
      · subst c16
        have H1 : ((chancerylaw19_awake.f kj3).bind fun t159 => (some t159)) = some r := by rw [if_pos rfl] at H; exact H
        clear H
        have H := H1
        clear H1
        replace H := Option.bind_eq_some_iff.mp H
        obtain ⟨t159, A170, H⟩ := H
        replace H : (some t159) = some r := H
        have A17 := Aside0.mk A170
        clear A170
        obtain rfl := Option.some.inj H
        go_wp2_with (first | ((with_reducible refine gate_callee (f := 5) rfl ?_); refine goesL_ (some 35) rfl rfl Tryd.func5 (by kernel_rfl) rfl #[] rfl (by (try simp only [List.map_toArray, List.map_cons, List.map_nil]); first | done | rfl | (simp only [List.length_drop, List.length_take]; rfl)) ?_; (with_reducible refine (chancerylaw19_awake.calls kj3  t159 _ A17.out (by first | exact HG.out | exact GlobOK.drawn HG.out ⟨⟨_, rfl⟩⟩ | exact GlobOK.below HG.out (by repeat (first | exact HB.out | apply below_alloc | apply pw_below_drewN | apply below_drew1 | refine Below.setCell ?_ (by first | exact GE158.out | exact GE169.out) _)))).mono ?_); rintro e w18 ⟨rfl, hb⟩; refine ⟨_, rfl, ?_⟩; have n0_ := Aside0.mk (Kd.R_below (by (with_reducible repeat (first | apply Kd.R_alloc | apply Kd.R_drewN | apply Kd.R_drew)); exact HO_5.out) hb); have n1_ := Aside0.mk (blk_below (g := gb158) (o := .cells #[.int .i64 t156, .int .i64 t157] 25 (0, 0)) (by (with_reducible repeat (first | refine blk_drewN ?_ _ | refine blk_drew ?_ | refine blk_alloc ?_ _)); exact BK158.out) hb); have n2_ := Aside0.mk (below_step (by repeat (first | (with_reducible first | exact HB.out | apply below_alloc | apply pw_below_drewN | apply below_drew1 | refine below_set ?_ GE158.out) | exact HB.out)) hb); clear HO_5; clear BK158; clear HB; have HO_5 := n0_; have BK158 := n1_; have HB := n2_; clear n0_ n1_ n2_; (try clear hb); (try clear hb2); (try clear hk); (try clear hi)))
        go_ret
        exact ⟨by first | rfl | (simp [errW_none, errW_some] <;> rfl) | (simp [*, errW_none, errW_some] <;> rfl), by repeat (first | (with_reducible first | exact HB.out | apply below_alloc | apply pw_below_drewN | apply below_drew1 | refine below_set ?_ GE158.out) | exact HB.out)⟩
      · replace c16 := Bool.eq_false_iff.mpr c16
        subst c16
        have H1 : ((strings_ReplaceAll.f a1 (⟨#[10]⟩ : ByteArray) (⟨#[32]⟩ : ByteArray)).bind fun t160 => (chancerylaw19_LexerSpaces.l0 kj3 a0 t160 t153 (⟨#[]⟩ : ByteArray) 0)) = some r := by rw [if_neg (show ¬ (false = true) by decide)] at H; exact H
        clear H
        have H := H1
        clear H1
        replace H := Option.bind_eq_some_iff.mp H
        obtain ⟨t160, A190, H⟩ := H
        replace H : (chancerylaw19_LexerSpaces.l0 kj3 a0 t160 t153 (⟨#[]⟩ : ByteArray) 0) = some r := H
        have A19 := Aside0.mk A190
        clear A190
        have H' := Aside0.mk H
        clear H
        go_wp2_with (first | ((with_reducible refine gate_callee (f := 6) rfl ?_); refine goesL_ (some 37) rfl rfl Tryd.func6 (by kernel_rfl) rfl #[.string a1, .string (⟨#[10]⟩ : ByteArray), .string (⟨#[32]⟩ : ByteArray)] rfl (by (try simp only [List.map_toArray, List.map_cons, List.map_nil]); first | done | rfl | (simp only [List.length_drop, List.length_take]; rfl)) ?_; (with_reducible refine (strings_ReplaceAll.calls a1 (⟨#[10]⟩ : ByteArray) (⟨#[32]⟩ : ByteArray) t160 _ A19.out (by first | exact HG.out | exact GlobOK.drawn HG.out ⟨⟨_, rfl⟩⟩ | exact GlobOK.below HG.out (by repeat (first | exact HB.out | apply below_alloc | apply pw_below_drewN | apply below_drew1 | refine Below.setCell ?_ (by first | exact GE158.out | exact GE169.out) _)))).mono ?_); rintro e w20 ⟨rfl, hb⟩; refine ⟨_, rfl, ?_⟩; have n0_ := Aside0.mk (Kd.R_below (by (with_reducible repeat (first | apply Kd.R_alloc | apply Kd.R_drewN | apply Kd.R_drew)); exact HO_5.out) hb); have n1_ := Aside0.mk (blk_below (g := gb158) (o := .cells #[.int .i64 t156, .int .i64 t157] 25 (0, 0)) (by (with_reducible repeat (first | refine blk_drewN ?_ _ | refine blk_drew ?_ | refine blk_alloc ?_ _)); exact BK158.out) hb); have n2_ := Aside0.mk (below_step (by repeat (first | (with_reducible first | exact HB.out | apply below_alloc | apply pw_below_drewN | apply below_drew1 | refine below_set ?_ GE158.out) | exact HB.out)) hb); clear HO_5; clear BK158; clear HB; have HO_5 := n0_; have BK158 := n1_; have HB := n2_; clear n0_ n1_ n2_; (try clear hb); (try clear hb2); (try clear hk); (try clear hi)))
        go_loopg [7, 8] kj3 (fun kq v7 v8 w' => ∃ (x7_2 : ByteArray) (x8_2 : Int), v7 = .string x7_2 ∧ v8 = .int .i64 x8_2 ∧ Aside0 (chancerylaw19_LexerSpaces.l0 kq a0 t160 t153 x7_2 x8_2 = some r) ∧ Aside0 (kq ≤ kj3) ∧ Aside0 (Kd.R k32 32 w' w.heap.size (fun _ => True) v154 t153) ∧ Aside0 (w'.heap[gb158]? = some (.cells #[.int .i64 t156, .int .i64 t157] 25 (0, 0))) ∧ Aside0 (Below w.heap.size w w'))
        case atStart => exact ⟨((⟨#[]⟩ : ByteArray)), (0), (by first | rfl | (simp; done) | (simp [*]; done)), (by first | rfl | (simp; done) | (simp [*]; done)), H', ⟨Nat.le_refl _⟩, ⟨by (with_reducible repeat (first | apply Kd.R_alloc | apply Kd.R_drewN | apply Kd.R_drew)); exact HO_5.out⟩, ⟨by (with_reducible repeat (first | refine blk_drewN ?_ _ | refine blk_drew ?_ | refine blk_alloc ?_ _)); exact BK158.out⟩, ⟨by repeat (first | (with_reducible first | exact HB.out | apply below_alloc | apply pw_below_drewN | apply below_drew1 | refine below_set ?_ GE158.out) | exact HB.out)⟩⟩
        case round =>
          clear H'
          try clear c1
          try clear p2
          try clear c3
          try clear c4
          try clear c5
          try clear c6
          try clear c8
          try clear c8b0
          try clear c10
          try clear c10b0
          try clear c10b1
          try clear c12
          try clear c12b0
          try clear c12b1
          try clear c16
          try clear hcz11_0
          try clear hcz11_1
          try clear hcz13_0
          try clear hcz13_1
          try clear hcz14_0
          try clear hcz14_1
          try clear hcz7_0
          try clear hcz7_1
          try clear hcz9_0
          try clear hcz9_1
          try clear hfz11_0
          try clear hfz11_1
          try clear hfz13_0
          try clear hfz13_1
          try clear hfz14_0
          try clear hfz14_1
          try clear hfz7_0
          try clear hfz7_1
          try clear hfz9_0
          try clear hfz9_1
          try clear p2
          obtain ⟨x7_2, x8_2, rfl, rfl, HA, HK2, HO_5, BK158, HB⟩ := hrel
          cases gk with
          | zero => exact absurd HA.out (by simp [chancerylaw19_LexerSpaces.l0])
          | succ k2 =>
            have H := HA.out
            clear HA
            simp only [chancerylaw19_LexerSpaces.l0] at H
            by_cases c21 : x8_2 < (t153.length : Int)
            · rw [if_pos c21] at H
              have c21b0 : decide (x8_2 < (t153.length : Int)) = true := decide_eq_true c21
              clear c21
              by_cases c22 : (wrap64 (x8_2 + 1)) < (t153.length : Int)
              · rw [if_pos c22] at H
                have c22b0 : decide ((wrap64 (x8_2 + 1)) < (t153.length : Int)) = true := decide_eq_true c22
                clear c22
                obtain ⟨ji23, hji23⟩ : ∃ j_ : Int, (wrap64 (x8_2 + 1)) = j_ := ⟨_, rfl⟩
                replace H : (if 0 ≤ (ji23) then (if x7_2.size + 4 ≤ 9223372036854775807 then (if (x7_2 ++ (⟨#[9, 32, 45, 45]⟩ : ByteArray)).size + t160.size ≤ 9223372036854775807 then (if ((x7_2 ++ (⟨#[9, 32, 45, 45]⟩ : ByteArray)) ++ t160).size + 2 ≤ 9223372036854775807 then (if 0 ≤ x8_2 then (if 0 ≤ ((rd_T32 t153 x8_2).f2) then (if ((rd_T32 t153 x8_2).f2) ≤ ((rd_T32 t153 (ji23)).f2) then (if ((rd_T32 t153 (ji23)).f2) ≤ (a0.size : Int) then (if (((x7_2 ++ (⟨#[9, 32, 45, 45]⟩ : ByteArray)) ++ t160) ++ (⟨#[10, 32]⟩ : ByteArray)).size + (a0.extract (((rd_T32 t153 x8_2).f2) : Int).toNat (((rd_T32 t153 (ji23)).f2) : Int).toNat).size ≤ 9223372036854775807 then (chancerylaw19_LexerSpaces.l0 k2 a0 t160 t153 ((((x7_2 ++ (⟨#[9, 32, 45, 45]⟩ : ByteArray)) ++ t160) ++ (⟨#[10, 32]⟩ : ByteArray)) ++ (a0.extract (((rd_T32 t153 x8_2).f2) : Int).toNat (((rd_T32 t153 (ji23)).f2) : Int).toNat)) ji23) else (none)) else (none)) else (none)) else (none)) else (none)) else (none)) else (none)) else (none)) else (none)) = some r := by first | (rw [hji23] at H; exact H) | (simp only [hji23] at H ⊢; exact H)
                (try rw [hji23] at c22b0)
                have hji23w : (IntKind.i64.wrap (x8_2 + 1)) = ji23 := (i64_w _).trans hji23
                by_cases c24 : 0 ≤ (ji23)
                · rw [if_pos c24] at H
                  have c24b0 : decide (0 ≤ (ji23)) = true := decide_eq_true c24
                  clear c24
                  by_cases c25 : x7_2.size + 4 ≤ 9223372036854775807
                  · rw [if_pos c25] at H
                    have c25b0 := eq_true c25
                    have c25b1 : decide (x7_2.size + 4 ≤ 9223372036854775807) = true := decide_eq_true c25
                    try have c25b2 : (9223372036854775807 < x7_2.size + 4) = False := eq_false (Nat.not_lt.2 c25)
                    by_cases c26 : (x7_2 ++ (⟨#[9, 32, 45, 45]⟩ : ByteArray)).size + t160.size ≤ 9223372036854775807
                    · rw [if_pos c26] at H
                      have c26b0 := eq_true c26
                      have c26b1 : decide ((x7_2 ++ (⟨#[9, 32, 45, 45]⟩ : ByteArray)).size + t160.size ≤ 9223372036854775807) = true := decide_eq_true c26
                      try have c26b2 : (9223372036854775807 < (x7_2 ++ (⟨#[9, 32, 45, 45]⟩ : ByteArray)).size + t160.size) = False := eq_false (Nat.not_lt.2 c26)
                      by_cases c27 : ((x7_2 ++ (⟨#[9, 32, 45, 45]⟩ : ByteArray)) ++ t160).size + 2 ≤ 9223372036854775807
                      · rw [if_pos c27] at H
                        have c27b0 := eq_true c27
                        have c27b1 : decide (((x7_2 ++ (⟨#[9, 32, 45, 45]⟩ : ByteArray)) ++ t160).size + 2 ≤ 9223372036854775807) = true := decide_eq_true c27
                        have c27b3 : (9223372036854775807 < x7_2.size + 4 + t160.size + 2) = False := by
                          have h_ := c27
                          rw [ByteArray.size_append, ByteArray.size_append] at h_
                          have e_ : (⟨#[9, 32, 45, 45]⟩ : ByteArray).size = 4 := rfl
                          rw [e_] at h_
                          exact eq_false (Nat.not_lt.mpr h_)
                        try have c27b2 : (9223372036854775807 < ((x7_2 ++ (⟨#[9, 32, 45, 45]⟩ : ByteArray)) ++ t160).size + 2) = False := eq_false (Nat.not_lt.2 c27)
                        by_cases c28 : 0 ≤ x8_2
                        · rw [if_pos c28] at H
                          have c28b0 : decide (0 ≤ x8_2) = true := decide_eq_true c28
                          clear c28
                          by_cases c29 : 0 ≤ ((rd_T32 t153 x8_2).f2)
                          · rw [if_pos c29] at H
                            have c29b0 := eq_true c29
                            have c29b1 : decide (0 ≤ ((rd_T32 t153 x8_2).f2)) = true := decide_eq_true c29
                            clear c29
                            by_cases c30 : ((rd_T32 t153 x8_2).f2) ≤ ((rd_T32 t153 (ji23)).f2)
                            · rw [if_pos c30] at H
                              have c30b0 := eq_true c30
                              have c30b1 : decide (((rd_T32 t153 x8_2).f2) ≤ ((rd_T32 t153 (ji23)).f2)) = true := decide_eq_true c30
                              clear c30
                              by_cases c31 : ((rd_T32 t153 (ji23)).f2) ≤ (a0.size : Int)
                              · rw [if_pos c31] at H
                                have c31b0 := eq_true c31
                                have c31b1 : decide (((rd_T32 t153 (ji23)).f2) ≤ (a0.size : Int)) = true := decide_eq_true c31
                                clear c31
                                by_cases c32 : (((x7_2 ++ (⟨#[9, 32, 45, 45]⟩ : ByteArray)) ++ t160) ++ (⟨#[10, 32]⟩ : ByteArray)).size + (a0.extract (((rd_T32 t153 x8_2).f2) : Int).toNat (((rd_T32 t153 (ji23)).f2) : Int).toNat).size ≤ 9223372036854775807
                                · rw [if_pos c32] at H
                                  have c32b0 := eq_true c32
                                  have c32b1 : decide ((((x7_2 ++ (⟨#[9, 32, 45, 45]⟩ : ByteArray)) ++ t160) ++ (⟨#[10, 32]⟩ : ByteArray)).size + (a0.extract (((rd_T32 t153 x8_2).f2) : Int).toNat (((rd_T32 t153 (ji23)).f2) : Int).toNat).size ≤ 9223372036854775807) = true := decide_eq_true c32
                                  try have c32b2 : (9223372036854775807 < (((x7_2 ++ (⟨#[9, 32, 45, 45]⟩ : ByteArray)) ++ t160) ++ (⟨#[10, 32]⟩ : ByteArray)).size + (a0.extract (((rd_T32 t153 x8_2).f2) : Int).toNat (((rd_T32 t153 (ji23)).f2) : Int).toNat).size) = False := eq_false (Nat.not_lt.2 c32)
                                  have H' := Aside0.mk H
                                  clear H
                                  obtain ⟨Ao33, co33, eo33⟩ := Kd.R_slice HO_5.out
                                  subst eo33
                                  have p161 : 0 ≤ ((ji23) : Int) := of_decide_eq_true (by first | (with_reducible assumption) | assumption)
                                  have q161 : (ji23) < (t153.length : Int) := of_decide_eq_true (by first | (with_reducible assumption) | assumption)
                                  obtain ⟨ad161, e161, hx161_0, hx161_1, hx161_2⟩ := at_T32 (Kd.R_reads' HO_5.out).2.2 (ji23) p161 q161
                                  cases e161
                                  replace p161 := eq_true p161
                                  replace q161 := eq_true q161
                                  have p162 : 0 ≤ (x8_2 : Int) := of_decide_eq_true (by first | (with_reducible assumption) | assumption)
                                  have q162 : x8_2 < (t153.length : Int) := of_decide_eq_true (by first | (with_reducible assumption) | assumption)
                                  obtain ⟨ad162, e162, hx162_0, hx162_1, hx162_2⟩ := at_T32 (Kd.R_reads' HO_5.out).2.2 x8_2 p162 q162
                                  obtain rfl : ad161 = ad162 := (by injection e162)
                                  replace p162 := eq_true p162
                                  replace q162 := eq_true q162
                                  go_wp2
                                  go_roundg k2
                                  case measure => have := HJ3.out; have := HK2.out; omega
                                  case rel => exact ⟨((((x7_2 ++ (⟨#[9, 32, 45, 45]⟩ : ByteArray)) ++ t160) ++ (⟨#[10, 32]⟩ : ByteArray)) ++ (a0.extract (((rd_T32 t153 x8_2).f2) : Int).toNat (((rd_T32 t153 (ji23)).f2) : Int).toNat)), (ji23), (by first | rfl | (simp; done) | (simp only [← hji23] <;> (first | rfl | simp)) | (simp [*]; done)), (by first | rfl | (simp; done) | (simp only [← hji23] <;> (first | rfl | simp)) | (simp [*]; done)), H', ⟨by have := HJ3.out; have := HK2.out; omega⟩, ⟨by (with_reducible repeat (first | apply Kd.R_alloc | apply Kd.R_drewN | apply Kd.R_drew)); exact HO_5.out⟩, ⟨by (with_reducible repeat (first | refine blk_drewN ?_ _ | refine blk_drew ?_ | refine blk_alloc ?_ _)); exact BK158.out⟩, ⟨by repeat (first | (with_reducible first | exact HB.out | apply below_alloc | apply pw_below_drewN | apply below_drew1 | refine below_set ?_ GE158.out) | exact HB.out)⟩⟩
                                · rw [if_neg c32] at H
                                  exact absurd H (by simp)
                              · rw [if_neg c31] at H
                                exact absurd H (by simp)
                            · rw [if_neg c30] at H
                              exact absurd H (by simp)
                          · rw [if_neg c29] at H
                            exact absurd H (by simp)
                        · rw [if_neg c28] at H
                          exact absurd H (by simp)
                      · rw [if_neg c27] at H
                        exact absurd H (by simp)
                    · rw [if_neg c26] at H
                      exact absurd H (by simp)
                  · rw [if_neg c25] at H
                    exact absurd H (by simp)
                · rw [if_neg c24] at H
                  exact absurd H (by simp)
              · rw [if_neg c22] at H
                have c22b0 : decide ((wrap64 (x8_2 + 1)) < (t153.length : Int)) = false := decide_eq_false c22
                clear c22
                by_cases c34 : x7_2.size + 4 ≤ 9223372036854775807
                · rw [if_pos c34] at H
                  have c34b0 := eq_true c34
                  have c34b1 : decide (x7_2.size + 4 ≤ 9223372036854775807) = true := decide_eq_true c34
                  try have c34b2 : (9223372036854775807 < x7_2.size + 4) = False := eq_false (Nat.not_lt.2 c34)
                  by_cases c35 : (x7_2 ++ (⟨#[9, 32, 45, 45]⟩ : ByteArray)).size + t160.size ≤ 9223372036854775807
                  · rw [if_pos c35] at H
                    have c35b0 := eq_true c35
                    have c35b1 : decide ((x7_2 ++ (⟨#[9, 32, 45, 45]⟩ : ByteArray)).size + t160.size ≤ 9223372036854775807) = true := decide_eq_true c35
                    try have c35b2 : (9223372036854775807 < (x7_2 ++ (⟨#[9, 32, 45, 45]⟩ : ByteArray)).size + t160.size) = False := eq_false (Nat.not_lt.2 c35)
                    by_cases c36 : ((x7_2 ++ (⟨#[9, 32, 45, 45]⟩ : ByteArray)) ++ t160).size + 2 ≤ 9223372036854775807
                    · rw [if_pos c36] at H
                      have c36b0 := eq_true c36
                      have c36b1 : decide (((x7_2 ++ (⟨#[9, 32, 45, 45]⟩ : ByteArray)) ++ t160).size + 2 ≤ 9223372036854775807) = true := decide_eq_true c36
                      have c36b3 : (9223372036854775807 < x7_2.size + 4 + t160.size + 2) = False := by
                        have h_ := c36
                        rw [ByteArray.size_append, ByteArray.size_append] at h_
                        have e_ : (⟨#[9, 32, 45, 45]⟩ : ByteArray).size = 4 := rfl
                        rw [e_] at h_
                        exact eq_false (Nat.not_lt.mpr h_)
                      try have c36b2 : (9223372036854775807 < ((x7_2 ++ (⟨#[9, 32, 45, 45]⟩ : ByteArray)) ++ t160).size + 2) = False := eq_false (Nat.not_lt.2 c36)
                      by_cases c37 : 0 ≤ x8_2
                      · rw [if_pos c37] at H
                        have c37b0 : decide (0 ≤ x8_2) = true := decide_eq_true c37
                        clear c37
                        by_cases c38 : 0 ≤ ((rd_T32 t153 x8_2).f2)
                        · rw [if_pos c38] at H
                          have c38b0 := eq_true c38
                          have c38b1 : decide (0 ≤ ((rd_T32 t153 x8_2).f2)) = true := decide_eq_true c38
                          clear c38
                          by_cases c39 : ((rd_T32 t153 x8_2).f2) ≤ (a0.size : Int)
                          · rw [if_pos c39] at H
                            have c39b0 := eq_true c39
                            have c39b1 : decide (((rd_T32 t153 x8_2).f2) ≤ (a0.size : Int)) = true := decide_eq_true c39
                            clear c39
                            by_cases c40 : (a0.size : Int) ≤ (a0.size : Int)
                            · rw [if_pos c40] at H
                              have c40b0 := eq_true c40
                              have c40b1 : decide ((a0.size : Int) ≤ (a0.size : Int)) = true := decide_eq_true c40
                              clear c40
                              by_cases c41 : (((x7_2 ++ (⟨#[9, 32, 45, 45]⟩ : ByteArray)) ++ t160) ++ (⟨#[10, 32]⟩ : ByteArray)).size + (a0.extract (((rd_T32 t153 x8_2).f2) : Int).toNat ((a0.size : Int) : Int).toNat).size ≤ 9223372036854775807
                              · rw [if_pos c41] at H
                                have c41b0 := eq_true c41
                                have c41b1 : decide ((((x7_2 ++ (⟨#[9, 32, 45, 45]⟩ : ByteArray)) ++ t160) ++ (⟨#[10, 32]⟩ : ByteArray)).size + (a0.extract (((rd_T32 t153 x8_2).f2) : Int).toNat ((a0.size : Int) : Int).toNat).size ≤ 9223372036854775807) = true := decide_eq_true c41
                                have c41b3 : (9223372036854775807 < x7_2.size + 4 + t160.size + 2 + (a0.size - (rd_T32 t153 x8_2).f2.toNat)) = False := by
                                  have h_ := c41
                                  rw [ByteArray.size_append, ByteArray.size_append, ByteArray.size_append, ByteArray.size_extract, Int.toNat_natCast, Nat.min_self] at h_
                                  have e_ : (⟨#[9, 32, 45, 45]⟩ : ByteArray).size = 4 := rfl
                                  have e2_ : (⟨#[10, 32]⟩ : ByteArray).size = 2 := rfl
                                  rw [e_, e2_] at h_
                                  exact eq_false (Nat.not_lt.mpr h_)
                                try have c41b2 : (9223372036854775807 < (((x7_2 ++ (⟨#[9, 32, 45, 45]⟩ : ByteArray)) ++ t160) ++ (⟨#[10, 32]⟩ : ByteArray)).size + (a0.extract (((rd_T32 t153 x8_2).f2) : Int).toNat ((a0.size : Int) : Int).toNat).size) = False := eq_false (Nat.not_lt.2 c41)
                                have H' := Aside0.mk H
                                clear H
                                obtain ⟨Ao42, co42, eo42⟩ := Kd.R_slice HO_5.out
                                subst eo42
                                have p163 : 0 ≤ (x8_2 : Int) := of_decide_eq_true (by first | (with_reducible assumption) | assumption)
                                have q163 : x8_2 < (t153.length : Int) := of_decide_eq_true (by first | (with_reducible assumption) | assumption)
                                obtain ⟨ad163, e163, hx163_0, hx163_1, hx163_2⟩ := at_T32 (Kd.R_reads' HO_5.out).2.2 x8_2 p163 q163
                                cases e163
                                replace p163 := eq_true p163
                                replace q163 := eq_true q163
                                go_wp2
                                go_roundg k2
                                case measure => have := HJ3.out; have := HK2.out; omega
                                case rel => exact ⟨((((x7_2 ++ (⟨#[9, 32, 45, 45]⟩ : ByteArray)) ++ t160) ++ (⟨#[10, 32]⟩ : ByteArray)) ++ (a0.extract (((rd_T32 t153 x8_2).f2) : Int).toNat ((a0.size : Int) : Int).toNat)), (wrap64 (x8_2 + 1)), (by first | rfl | (simp; done) | (simp [*]; done)), (by first | rfl | (simp; done) | (simp [*]; done)), H', ⟨by have := HJ3.out; have := HK2.out; omega⟩, ⟨by (with_reducible repeat (first | apply Kd.R_alloc | apply Kd.R_drewN | apply Kd.R_drew)); exact HO_5.out⟩, ⟨by (with_reducible repeat (first | refine blk_drewN ?_ _ | refine blk_drew ?_ | refine blk_alloc ?_ _)); exact BK158.out⟩, ⟨by repeat (first | (with_reducible first | exact HB.out | apply below_alloc | apply pw_below_drewN | apply below_drew1 | refine below_set ?_ GE158.out) | exact HB.out)⟩⟩
                              · rw [if_neg c41] at H
                                exact absurd H (by simp)
                            · rw [if_neg c40] at H
                              exact absurd H (by simp)
                          · rw [if_neg c39] at H
                            exact absurd H (by simp)
                        · rw [if_neg c38] at H
                          exact absurd H (by simp)
                      · rw [if_neg c37] at H
                        exact absurd H (by simp)
                    · rw [if_neg c36] at H
                      exact absurd H (by simp)
                  · rw [if_neg c35] at H
                    exact absurd H (by simp)
                · rw [if_neg c34] at H
                  exact absurd H (by simp)
            · rw [if_neg c21] at H
              have c21b0 : decide (x8_2 < (t153.length : Int)) = false := decide_eq_false c21
              clear c21
              replace H := Option.bind_eq_some_iff.mp H
              obtain ⟨⟨t164, t167, t168⟩, A430, H⟩ := H
              replace H : (if (x7_2.size : Int) > 4096 then (if (t167 == 3 && (t168 == 0)) = true then ((chancerylaw19_awake.f k2).bind fun t170 => (some t170)) else (some false)) else (if (t167 == 0 && (t168 == 0)) = true then ((chancerylaw19_same.f k2 t153 t164).bind fun t171 => (if t171 = true then ((chancerylaw19_awake.f k2).bind fun t172 => (some t172)) else (some false))) else (some false))) = some r := H
              have A43 := Aside0.mk A430
              clear A430
              by_cases c44 : (x7_2.size : Int) > 4096
              · rw [if_pos c44] at H
                have c44b0 : decide (4096 < (x7_2.size : Int)) = true := decide_eq_true c44
                have c44b1 : decide (4096 < x7_2.size) = true := decide_eq_true (by omega)
                clear c44
                by_cases c45 : (t167 == 3 && (t168 == 0)) = true
                · rw [if_pos c45] at H
                  have c45b0 : (t167 == 3 && (t168 == 0)) = true := c45
                  (try (have c45b1 : decide (t167 = 3 && (t168 == 0)) = true := by simpa using c45))
                  (try (have c45b2 : (t167 == 3 && (t168 == 0)) = true := by simpa using c45))
                  clear c45
                  replace H := Option.bind_eq_some_iff.mp H
                  obtain ⟨t170, A460, H⟩ := H
                  replace H : (some t170) = some r := H
                  have A46 := Aside0.mk A460
                  clear A460
                  obtain rfl := Option.some.inj H
                  obtain ⟨Ao47, co47, eo47⟩ := Kd.R_slice HO_5.out
                  subst eo47
                  go_wp2_with (first | ((with_reducible refine gate_callee (f := 4) rfl ?_); refine goesL_ (some 73) rfl rfl Tryd.func4 (by kernel_rfl) rfl #[.string x7_2] rfl (by (try simp only [List.map_toArray, List.map_cons, List.map_nil]); first | done | rfl | (simp only [List.length_drop, List.length_take]; rfl)) ?_; (with_reducible refine (lexer_Tokens.calls k2 x7_2 t164 t167 t168 _ A43.out).mono ?_); rintro e w48 ⟨v165, rfl, ho0, hb⟩; refine ⟨_, rfl, ?_⟩; have n0_ := Aside0.mk (Kd.R_elder' (by (with_reducible repeat (first | apply Kd.R_alloc | apply Kd.R_drewN | apply Kd.R_drew)); exact HO_5.out) (Kd.R_base ho0) hb); have n1_ := Aside0.mk (Kd.R_lower (Kd.R_new' ho0 (Kd.R_lt (by (with_reducible repeat (first | apply Kd.R_alloc | apply Kd.R_drewN | apply Kd.R_drew)); exact HO_5.out))) (below_size (by repeat (first | (with_reducible first | exact HB.out | apply below_alloc | apply pw_below_drewN | apply below_drew1 | refine below_set ?_ GE158.out) | exact HB.out)))); have n2_ := Aside0.mk (blk_below (g := gb158) (o := .cells #[.int .i64 t156, .int .i64 t157] 25 (0, 0)) (by (with_reducible repeat (first | refine blk_drewN ?_ _ | refine blk_drew ?_ | refine blk_alloc ?_ _)); exact BK158.out) hb); have n3_ := Aside0.mk (below_step (by repeat (first | (with_reducible first | exact HB.out | apply below_alloc | apply pw_below_drewN | apply below_drew1 | refine below_set ?_ GE158.out) | exact HB.out)) hb); clear HO_5; clear BK158; clear HB; have HO_5 := n0_; have HO166 := n1_; have BK158 := n2_; have HB := n3_; clear n0_ n1_ n2_ n3_; (try clear hb); (try clear hb2); (try clear hk); (try clear hi); (try clear ho0)) | ((with_reducible refine gate_dst (N := 11) rfl ?_); (try (refine gate_guard (by rfl) ?_; dsimp only)); refine box_event ?hg (N := 11) ?hd (cs := #[.int .i64 0, .int .i64 0]) (t := 25) ?hr ?_; (case hd => rfl); (case hg => rfl); (case hr => first | (go_simp; done) | (go_simp; rfl)); intro gb169 hg w49 hbox hb; have n0_ := Aside0.mk (Kd.R_below (by (with_reducible repeat (first | apply Kd.R_alloc | apply Kd.R_drewN | apply Kd.R_drew)); exact HO_5.out) hb); have n1_ := Aside0.mk (Kd.R_below (by (with_reducible repeat (first | apply Kd.R_alloc | apply Kd.R_drewN | apply Kd.R_drew)); exact HO166.out) hb); have n2_ := Aside0.mk (blk_below (g := gb158) (o := .cells #[.int .i64 t156, .int .i64 t157] 25 (0, 0)) (by (with_reducible repeat (first | refine blk_drewN ?_ _ | refine blk_drew ?_ | refine blk_alloc ?_ _)); exact BK158.out) hb); have n3_ := Aside0.mk (below_step (by repeat (first | (with_reducible first | exact HB.out | apply below_alloc | apply pw_below_drewN | apply below_drew1 | refine below_set ?_ GE158.out) | exact HB.out)) hb); have n4_ := Aside0.mk (hbox); have n5_ := Aside0.mk ((by rw [hg]; exact (below_size (by repeat (first | (with_reducible first | exact HB.out | apply below_alloc | apply pw_below_drewN | apply below_drew1 | refine below_set ?_ GE158.out) | exact HB.out))) : w.heap.size ≤ gb169)); have n6_ := Aside0.mk ((by rw [hg]; exact (below_size (by repeat (first | (with_reducible first | exact HB.out | apply below_alloc | apply pw_below_drewN | apply below_drew1 | refine below_set ?_ GE158.out) | exact HB.out))) : w.heap.size ≤ gb169)); have n7_ := Aside0.mk ((by rw [hg]; exact Nat.ne_of_lt (blk_lt (g := gb158) (o := .cells #[.int .i64 t156, .int .i64 t157] 25 (0, 0)) (by (with_reducible repeat (first | refine blk_drewN ?_ _ | refine blk_drew ?_ | refine blk_alloc ?_ _)); exact BK158.out)) : gb158 ≠ gb169)); have n8_ := Aside0.mk ((by rw [hg]; exact Nat.ne_of_gt (blk_lt (g := gb158) (o := .cells #[.int .i64 t156, .int .i64 t157] 25 (0, 0)) (by (with_reducible repeat (first | refine blk_drewN ?_ _ | refine blk_drew ?_ | refine blk_alloc ?_ _)); exact BK158.out)) : gb169 ≠ gb158)); clear HO_5; clear HO166; clear BK158; clear HB; have HO_5 := n0_; have HO166 := n1_; have BK158 := n2_; have HB := n3_; have BK169 := n4_; have GW169 := n5_; have GE169 := n6_; have NB158_169 := n7_; have NB169_158 := n8_; clear n0_ n1_ n2_ n3_ n4_ n5_ n6_ n7_ n8_; clear hb hbox hg; have hnb50 := NB169_158.out; have hnc50 := NB158_169.out; have hcz51_0 : w49.cell? ⟨gb169, 0, none⟩ = some (.int .i64 0) := (blk_cell BK169.out 0).trans rfl; have hcz51_1 : w49.cell? ⟨gb169, 1, none⟩ = some (.int .i64 0) := (blk_cell BK169.out 1).trans rfl; have hfz51_0 := blk_frozen BK169.out 0; have hfz51_1 := blk_frozen BK169.out 1) | (go_at_call 5; (with_reducible refine (chancerylaw19_awake.calls k2  t170 _ A46.out (by first | exact HG.out | exact GlobOK.drawn HG.out ⟨⟨_, rfl⟩⟩ | exact GlobOK.below HG.out (by repeat (first | exact HB.out | apply below_alloc | apply pw_below_drewN | apply below_drew1 | refine Below.setCell ?_ (by first | exact GE158.out | exact GE169.out) _)))).mono ?_); rintro e w52 ⟨rfl, hb⟩; have n0_ := Aside0.mk (Kd.R_below (by (with_reducible repeat (first | apply Kd.R_alloc | apply Kd.R_drewN | apply Kd.R_drew)); exact (Kd.R_mono (Kd.R_far (p := ⟨gb169, 1, none⟩) (Kd.R_far (p := ⟨gb169, 0, none⟩) (Kd.R_types HO_5.out BK169.out (by decide)) (fun _ hk => hk.2) (.int .i64 t167)) (fun _ hk => hk.2) (.int .i64 t168)) (fun _ h_ => h_.1))) hb); have n1_ := Aside0.mk (Kd.R_below (by (with_reducible repeat (first | apply Kd.R_alloc | apply Kd.R_drewN | apply Kd.R_drew)); exact (Kd.R_mono (Kd.R_far (p := ⟨gb169, 1, none⟩) (Kd.R_far (p := ⟨gb169, 0, none⟩) (Kd.R_types HO166.out BK169.out (by decide)) (fun _ hk => hk.2) (.int .i64 t167)) (fun _ hk => hk.2) (.int .i64 t168)) (fun _ h_ => h_.1))) hb); have n2_ := Aside0.mk (blk_below (g := gb158) (o := .cells #[.int .i64 t156, .int .i64 t157] 25 (0, 0)) (by (with_reducible repeat (first | refine blk_drewN ?_ _ | refine blk_drew ?_ | refine blk_alloc ?_ _)); refine blk_far ?_ NB158_169.out _; (with_reducible repeat (first | refine blk_drewN ?_ _ | refine blk_drew ?_ | refine blk_alloc ?_ _)); refine blk_far ?_ NB158_169.out _; (with_reducible repeat (first | refine blk_drewN ?_ _ | refine blk_drew ?_ | refine blk_alloc ?_ _)); exact BK158.out) hb); have n3_ := Aside0.mk (blk_below (g := gb169) (o := .cells #[.int .i64 t167, .int .i64 t168] 25 (0, 0)) (by (with_reducible repeat (first | refine blk_drewN ?_ _ | refine blk_drew ?_ | refine blk_alloc ?_ _)); refine blk_put (cs := #[.int .i64 t167, .int .i64 0]) ?_ 1 _ rfl; (with_reducible repeat (first | refine blk_drewN ?_ _ | refine blk_drew ?_ | refine blk_alloc ?_ _)); refine blk_put (cs := #[.int .i64 0, .int .i64 0]) ?_ 0 _ rfl; (with_reducible repeat (first | refine blk_drewN ?_ _ | refine blk_drew ?_ | refine blk_alloc ?_ _)); exact BK169.out) hb); have n4_ := Aside0.mk (below_step (by repeat (first | (with_reducible first | exact HB.out | apply below_alloc | apply pw_below_drewN | apply below_drew1 | refine below_set ?_ GE158.out | refine below_set ?_ GE169.out) | exact HB.out)) hb); clear HO_5; clear HO166; clear BK158; clear BK169; clear HB; have HO_5 := n0_; have HO166 := n1_; have BK158 := n2_; have BK169 := n3_; have HB := n4_; clear n0_ n1_ n2_ n3_ n4_; (try clear hb); (try clear hb2); (try clear hk); (try clear hi)))
                  go_ret
                  exact ⟨by first | rfl | (simp [errW_none, errW_some] <;> rfl) | (simp [*, errW_none, errW_some] <;> rfl), by repeat (first | (with_reducible first | exact HB.out | apply below_alloc | apply pw_below_drewN | apply below_drew1 | refine below_set ?_ GE158.out | refine below_set ?_ GE169.out) | exact HB.out)⟩
                · rw [if_neg c45] at H
                  have c45b0 : (t167 == 3 && (t168 == 0)) = false := by simpa using c45
                  (try (have c45b1 : decide (t167 = 3 && (t168 == 0)) = false := by simpa using c45))
                  (try (have c45b2 : (t167 == 3 && (t168 == 0)) = false := by simpa using c45))
                  (try (have c45b3 : ¬ (t167 = 3 && (t168 == 0)) := by simpa using c45))
                  clear c45
                  obtain rfl := Option.some.inj H
                  obtain ⟨Ao53, co53, eo53⟩ := Kd.R_slice HO_5.out
                  subst eo53
                  go_wp2_with (first | ((with_reducible refine gate_callee (f := 4) rfl ?_); refine goesL_ (some 73) rfl rfl Tryd.func4 (by kernel_rfl) rfl #[.string x7_2] rfl (by (try simp only [List.map_toArray, List.map_cons, List.map_nil]); first | done | rfl | (simp only [List.length_drop, List.length_take]; rfl)) ?_; (with_reducible refine (lexer_Tokens.calls k2 x7_2 t164 t167 t168 _ A43.out).mono ?_); rintro e w54 ⟨v165, rfl, ho0, hb⟩; refine ⟨_, rfl, ?_⟩; have n0_ := Aside0.mk (Kd.R_elder' (by (with_reducible repeat (first | apply Kd.R_alloc | apply Kd.R_drewN | apply Kd.R_drew)); exact HO_5.out) (Kd.R_base ho0) hb); have n1_ := Aside0.mk (Kd.R_lower (Kd.R_new' ho0 (Kd.R_lt (by (with_reducible repeat (first | apply Kd.R_alloc | apply Kd.R_drewN | apply Kd.R_drew)); exact HO_5.out))) (below_size (by repeat (first | (with_reducible first | exact HB.out | apply below_alloc | apply pw_below_drewN | apply below_drew1 | refine below_set ?_ GE158.out) | exact HB.out)))); have n2_ := Aside0.mk (blk_below (g := gb158) (o := .cells #[.int .i64 t156, .int .i64 t157] 25 (0, 0)) (by (with_reducible repeat (first | refine blk_drewN ?_ _ | refine blk_drew ?_ | refine blk_alloc ?_ _)); exact BK158.out) hb); have n3_ := Aside0.mk (below_step (by repeat (first | (with_reducible first | exact HB.out | apply below_alloc | apply pw_below_drewN | apply below_drew1 | refine below_set ?_ GE158.out) | exact HB.out)) hb); clear HO_5; clear BK158; clear HB; have HO_5 := n0_; have HO166 := n1_; have BK158 := n2_; have HB := n3_; clear n0_ n1_ n2_ n3_; (try clear hb); (try clear hb2); (try clear hk); (try clear hi); (try clear ho0)) | ((with_reducible refine gate_dst (N := 11) rfl ?_); (try (refine gate_guard (by rfl) ?_; dsimp only)); refine box_event ?hg (N := 11) ?hd (cs := #[.int .i64 0, .int .i64 0]) (t := 25) ?hr ?_; (case hd => rfl); (case hg => rfl); (case hr => first | (go_simp; done) | (go_simp; rfl)); intro gb169 hg w55 hbox hb; have n0_ := Aside0.mk (Kd.R_below (by (with_reducible repeat (first | apply Kd.R_alloc | apply Kd.R_drewN | apply Kd.R_drew)); exact HO_5.out) hb); have n1_ := Aside0.mk (Kd.R_below (by (with_reducible repeat (first | apply Kd.R_alloc | apply Kd.R_drewN | apply Kd.R_drew)); exact HO166.out) hb); have n2_ := Aside0.mk (blk_below (g := gb158) (o := .cells #[.int .i64 t156, .int .i64 t157] 25 (0, 0)) (by (with_reducible repeat (first | refine blk_drewN ?_ _ | refine blk_drew ?_ | refine blk_alloc ?_ _)); exact BK158.out) hb); have n3_ := Aside0.mk (below_step (by repeat (first | (with_reducible first | exact HB.out | apply below_alloc | apply pw_below_drewN | apply below_drew1 | refine below_set ?_ GE158.out) | exact HB.out)) hb); have n4_ := Aside0.mk (hbox); have n5_ := Aside0.mk ((by rw [hg]; exact (below_size (by repeat (first | (with_reducible first | exact HB.out | apply below_alloc | apply pw_below_drewN | apply below_drew1 | refine below_set ?_ GE158.out) | exact HB.out))) : w.heap.size ≤ gb169)); have n6_ := Aside0.mk ((by rw [hg]; exact (below_size (by repeat (first | (with_reducible first | exact HB.out | apply below_alloc | apply pw_below_drewN | apply below_drew1 | refine below_set ?_ GE158.out) | exact HB.out))) : w.heap.size ≤ gb169)); have n7_ := Aside0.mk ((by rw [hg]; exact Nat.ne_of_lt (blk_lt (g := gb158) (o := .cells #[.int .i64 t156, .int .i64 t157] 25 (0, 0)) (by (with_reducible repeat (first | refine blk_drewN ?_ _ | refine blk_drew ?_ | refine blk_alloc ?_ _)); exact BK158.out)) : gb158 ≠ gb169)); have n8_ := Aside0.mk ((by rw [hg]; exact Nat.ne_of_gt (blk_lt (g := gb158) (o := .cells #[.int .i64 t156, .int .i64 t157] 25 (0, 0)) (by (with_reducible repeat (first | refine blk_drewN ?_ _ | refine blk_drew ?_ | refine blk_alloc ?_ _)); exact BK158.out)) : gb169 ≠ gb158)); clear HO_5; clear HO166; clear BK158; clear HB; have HO_5 := n0_; have HO166 := n1_; have BK158 := n2_; have HB := n3_; have BK169 := n4_; have GW169 := n5_; have GE169 := n6_; have NB158_169 := n7_; have NB169_158 := n8_; clear n0_ n1_ n2_ n3_ n4_ n5_ n6_ n7_ n8_; clear hb hbox hg; have hnb56 := NB169_158.out; have hnc56 := NB158_169.out; have hcz57_0 : w55.cell? ⟨gb169, 0, none⟩ = some (.int .i64 0) := (blk_cell BK169.out 0).trans rfl; have hcz57_1 : w55.cell? ⟨gb169, 1, none⟩ = some (.int .i64 0) := (blk_cell BK169.out 1).trans rfl; have hfz57_0 := blk_frozen BK169.out 0; have hfz57_1 := blk_frozen BK169.out 1))
                  go_ret
                  exact ⟨by first | rfl | (simp [errW_none, errW_some] <;> rfl) | (simp [*, errW_none, errW_some] <;> rfl), by repeat (first | (with_reducible first | exact HB.out | apply below_alloc | apply pw_below_drewN | apply below_drew1 | refine below_set ?_ GE158.out | refine below_set ?_ GE169.out) | exact HB.out)⟩
              · rw [if_neg c44] at H
                have c44b0 : decide (4096 < (x7_2.size : Int)) = false := decide_eq_false c44
                have c44b1 : decide (4096 < x7_2.size) = false := decide_eq_false (by omega)
                clear c44
                by_cases c58 : (t167 == 0 && (t168 == 0)) = true
                · rw [if_pos c58] at H
                  have c58b0 : (t167 == 0 && (t168 == 0)) = true := c58
                  (try (have c58b1 : decide (t167 = 0 && (t168 == 0)) = true := by simpa using c58))
                  (try (have c58b2 : (t167 == 0 && (t168 == 0)) = true := by simpa using c58))
                  clear c58
                  replace H := Option.bind_eq_some_iff.mp H
                  obtain ⟨t171, A590, H⟩ := H
                  replace H : (if t171 = true then ((chancerylaw19_awake.f k2).bind fun t172 => (some t172)) else (some false)) = some r := H
                  have A59 := Aside0.mk A590
                  clear A590
                  by_cases c60 : t171 = true
                  · subst c60
                    have H1 : ((chancerylaw19_awake.f k2).bind fun t172 => (some t172)) = some r := by rw [if_pos rfl] at H; exact H
                    clear H
                    have H := H1
                    clear H1
                    replace H := Option.bind_eq_some_iff.mp H
                    obtain ⟨t172, A610, H⟩ := H
                    replace H : (some t172) = some r := H
                    have A61 := Aside0.mk A610
                    clear A610
                    obtain rfl := Option.some.inj H
                    obtain ⟨Ao62, co62, eo62⟩ := Kd.R_slice HO_5.out
                    subst eo62
                    go_wp2_with (first | ((with_reducible refine gate_callee (f := 4) rfl ?_); refine goesL_ (some 73) rfl rfl Tryd.func4 (by kernel_rfl) rfl #[.string x7_2] rfl (by (try simp only [List.map_toArray, List.map_cons, List.map_nil]); first | done | rfl | (simp only [List.length_drop, List.length_take]; rfl)) ?_; (with_reducible refine (lexer_Tokens.calls k2 x7_2 t164 t167 t168 _ A43.out).mono ?_); rintro e w63 ⟨v165, rfl, ho0, hb⟩; refine ⟨_, rfl, ?_⟩; have n0_ := Aside0.mk (Kd.R_elder' (by (with_reducible repeat (first | apply Kd.R_alloc | apply Kd.R_drewN | apply Kd.R_drew)); exact HO_5.out) (Kd.R_base ho0) hb); have n1_ := Aside0.mk (Kd.R_lower (Kd.R_new' ho0 (Kd.R_lt (by (with_reducible repeat (first | apply Kd.R_alloc | apply Kd.R_drewN | apply Kd.R_drew)); exact HO_5.out))) (below_size (by repeat (first | (with_reducible first | exact HB.out | apply below_alloc | apply pw_below_drewN | apply below_drew1 | refine below_set ?_ GE158.out) | exact HB.out)))); have n2_ := Aside0.mk (blk_below (g := gb158) (o := .cells #[.int .i64 t156, .int .i64 t157] 25 (0, 0)) (by (with_reducible repeat (first | refine blk_drewN ?_ _ | refine blk_drew ?_ | refine blk_alloc ?_ _)); exact BK158.out) hb); have n3_ := Aside0.mk (below_step (by repeat (first | (with_reducible first | exact HB.out | apply below_alloc | apply pw_below_drewN | apply below_drew1 | refine below_set ?_ GE158.out) | exact HB.out)) hb); clear HO_5; clear BK158; clear HB; have HO_5 := n0_; have HO166 := n1_; have BK158 := n2_; have HB := n3_; clear n0_ n1_ n2_ n3_; (try clear hb); (try clear hb2); (try clear hk); (try clear hi); (try clear ho0)) | ((with_reducible refine gate_dst (N := 11) rfl ?_); (try (refine gate_guard (by rfl) ?_; dsimp only)); refine box_event ?hg (N := 11) ?hd (cs := #[.int .i64 0, .int .i64 0]) (t := 25) ?hr ?_; (case hd => rfl); (case hg => rfl); (case hr => first | (go_simp; done) | (go_simp; rfl)); intro gb169 hg w64 hbox hb; have n0_ := Aside0.mk (Kd.R_below (by (with_reducible repeat (first | apply Kd.R_alloc | apply Kd.R_drewN | apply Kd.R_drew)); exact HO_5.out) hb); have n1_ := Aside0.mk (Kd.R_below (by (with_reducible repeat (first | apply Kd.R_alloc | apply Kd.R_drewN | apply Kd.R_drew)); exact HO166.out) hb); have n2_ := Aside0.mk (blk_below (g := gb158) (o := .cells #[.int .i64 t156, .int .i64 t157] 25 (0, 0)) (by (with_reducible repeat (first | refine blk_drewN ?_ _ | refine blk_drew ?_ | refine blk_alloc ?_ _)); exact BK158.out) hb); have n3_ := Aside0.mk (below_step (by repeat (first | (with_reducible first | exact HB.out | apply below_alloc | apply pw_below_drewN | apply below_drew1 | refine below_set ?_ GE158.out) | exact HB.out)) hb); have n4_ := Aside0.mk (hbox); have n5_ := Aside0.mk ((by rw [hg]; exact (below_size (by repeat (first | (with_reducible first | exact HB.out | apply below_alloc | apply pw_below_drewN | apply below_drew1 | refine below_set ?_ GE158.out) | exact HB.out))) : w.heap.size ≤ gb169)); have n6_ := Aside0.mk ((by rw [hg]; exact (below_size (by repeat (first | (with_reducible first | exact HB.out | apply below_alloc | apply pw_below_drewN | apply below_drew1 | refine below_set ?_ GE158.out) | exact HB.out))) : w.heap.size ≤ gb169)); have n7_ := Aside0.mk ((by rw [hg]; exact Nat.ne_of_lt (blk_lt (g := gb158) (o := .cells #[.int .i64 t156, .int .i64 t157] 25 (0, 0)) (by (with_reducible repeat (first | refine blk_drewN ?_ _ | refine blk_drew ?_ | refine blk_alloc ?_ _)); exact BK158.out)) : gb158 ≠ gb169)); have n8_ := Aside0.mk ((by rw [hg]; exact Nat.ne_of_gt (blk_lt (g := gb158) (o := .cells #[.int .i64 t156, .int .i64 t157] 25 (0, 0)) (by (with_reducible repeat (first | refine blk_drewN ?_ _ | refine blk_drew ?_ | refine blk_alloc ?_ _)); exact BK158.out)) : gb169 ≠ gb158)); clear HO_5; clear HO166; clear BK158; clear HB; have HO_5 := n0_; have HO166 := n1_; have BK158 := n2_; have HB := n3_; have BK169 := n4_; have GW169 := n5_; have GE169 := n6_; have NB158_169 := n7_; have NB169_158 := n8_; clear n0_ n1_ n2_ n3_ n4_ n5_ n6_ n7_ n8_; clear hb hbox hg; have hnb65 := NB169_158.out; have hnc65 := NB158_169.out; have hcz66_0 : w64.cell? ⟨gb169, 0, none⟩ = some (.int .i64 0) := (blk_cell BK169.out 0).trans rfl; have hcz66_1 : w64.cell? ⟨gb169, 1, none⟩ = some (.int .i64 0) := (blk_cell BK169.out 1).trans rfl; have hfz66_0 := blk_frozen BK169.out 0; have hfz66_1 := blk_frozen BK169.out 1; obtain ⟨Ao67, co67, eo67⟩ := Kd.R_slice HO166.out; subst eo67) | (go_at_call 7; (with_reducible refine (chancerylaw19_same.calls k2 _ _ t153 _ _ t164 true _ ?side1 ?side2 ?side3 ?side4 A59.out).mono ?_); (case side1 => refine (Kd.R_reads' (e := 32) (base := w.heap.size) (ok := fun k_ => (True ∧ some k_ ≠ (.slice Ao67 t164.length co67 : Value).ownBlock)) (n := t153.length) (c := co62) ?_).2.2; exact (by (with_reducible repeat (first | apply Kd.R_alloc | apply Kd.R_drewN | apply Kd.R_drew)); exact (Kd.R_mono (Kd.R_far (p := ⟨gb169, 1, none⟩) (Kd.R_far (p := ⟨gb169, 0, none⟩) (Kd.R_types HO_5.out BK169.out (by decide)) (fun _ hk => hk.2) (.int .i64 t167)) (fun _ hk => hk.2) (.int .i64 t168)) (fun _ h_ => h_.1)))); (case side2 => exact (Kd.R_reads' HO_5.out).2.1); (case side3 => refine (Kd.R_reads' (e := 32) (base := w.heap.size) (ok := fun k_ => (True ∧ some k_ ≠ (.slice Ao62 t153.length co62 : Value).ownBlock)) (n := t164.length) (c := co67) ?_).2.2; exact (by (with_reducible repeat (first | apply Kd.R_alloc | apply Kd.R_drewN | apply Kd.R_drew)); exact (Kd.R_mono (Kd.R_far (p := ⟨gb169, 1, none⟩) (Kd.R_far (p := ⟨gb169, 0, none⟩) (Kd.R_types HO166.out BK169.out (by decide)) (fun _ hk => hk.2) (.int .i64 t167)) (fun _ hk => hk.2) (.int .i64 t168)) (fun _ h_ => h_.1)))); (case side4 => exact (Kd.R_reads' HO166.out).2.1); rintro e w' ⟨rfl, ⟨nd, rfl⟩⟩) | (go_at_call 5; (with_reducible refine (chancerylaw19_awake.calls k2  t172 _ A61.out (by first | exact HG.out | exact GlobOK.drawn HG.out ⟨⟨_, rfl⟩⟩ | exact GlobOK.below HG.out (by repeat (first | exact HB.out | apply below_alloc | apply pw_below_drewN | apply below_drew1 | refine Below.setCell ?_ (by first | exact GE158.out | exact GE169.out) _)))).mono ?_); rintro e w68 ⟨rfl, hb⟩; have n0_ := Aside0.mk (Kd.R_below (by (with_reducible repeat (first | apply Kd.R_alloc | apply Kd.R_drewN | apply Kd.R_drew)); exact (Kd.R_mono (Kd.R_far (p := ⟨gb169, 1, none⟩) (Kd.R_far (p := ⟨gb169, 0, none⟩) (Kd.R_types HO_5.out BK169.out (by decide)) (fun _ hk => hk.2) (.int .i64 t167)) (fun _ hk => hk.2) (.int .i64 t168)) (fun _ h_ => h_.1))) hb); have n1_ := Aside0.mk (Kd.R_below (by (with_reducible repeat (first | apply Kd.R_alloc | apply Kd.R_drewN | apply Kd.R_drew)); exact (Kd.R_mono (Kd.R_far (p := ⟨gb169, 1, none⟩) (Kd.R_far (p := ⟨gb169, 0, none⟩) (Kd.R_types HO166.out BK169.out (by decide)) (fun _ hk => hk.2) (.int .i64 t167)) (fun _ hk => hk.2) (.int .i64 t168)) (fun _ h_ => h_.1))) hb); have n2_ := Aside0.mk (blk_below (g := gb158) (o := .cells #[.int .i64 t156, .int .i64 t157] 25 (0, 0)) (by (with_reducible repeat (first | refine blk_drewN ?_ _ | refine blk_drew ?_ | refine blk_alloc ?_ _)); refine blk_far ?_ NB158_169.out _; (with_reducible repeat (first | refine blk_drewN ?_ _ | refine blk_drew ?_ | refine blk_alloc ?_ _)); refine blk_far ?_ NB158_169.out _; (with_reducible repeat (first | refine blk_drewN ?_ _ | refine blk_drew ?_ | refine blk_alloc ?_ _)); exact BK158.out) hb); have n3_ := Aside0.mk (blk_below (g := gb169) (o := .cells #[.int .i64 t167, .int .i64 t168] 25 (0, 0)) (by (with_reducible repeat (first | refine blk_drewN ?_ _ | refine blk_drew ?_ | refine blk_alloc ?_ _)); refine blk_put (cs := #[.int .i64 t167, .int .i64 0]) ?_ 1 _ rfl; (with_reducible repeat (first | refine blk_drewN ?_ _ | refine blk_drew ?_ | refine blk_alloc ?_ _)); refine blk_put (cs := #[.int .i64 0, .int .i64 0]) ?_ 0 _ rfl; (with_reducible repeat (first | refine blk_drewN ?_ _ | refine blk_drew ?_ | refine blk_alloc ?_ _)); exact BK169.out) hb); have n4_ := Aside0.mk (below_step (by repeat (first | (with_reducible first | exact HB.out | apply below_alloc | apply pw_below_drewN | apply below_drew1 | refine below_set ?_ GE158.out | refine below_set ?_ GE169.out) | exact HB.out)) hb); clear HO_5; clear HO166; clear BK158; clear BK169; clear HB; have HO_5 := n0_; have HO166 := n1_; have BK158 := n2_; have BK169 := n3_; have HB := n4_; clear n0_ n1_ n2_ n3_ n4_; (try clear hb); (try clear hb2); (try clear hk); (try clear hi)))
                    go_ret
                    exact ⟨by first | rfl | (simp [errW_none, errW_some] <;> rfl) | (simp [*, errW_none, errW_some] <;> rfl), by repeat (first | (with_reducible first | exact HB.out | apply below_alloc | apply pw_below_drewN | apply below_drew1 | refine below_set ?_ GE158.out | refine below_set ?_ GE169.out) | exact HB.out)⟩
                  · replace c60 := Bool.eq_false_iff.mpr c60
                    subst c60
                    have H1 : (some false) = some r := by rw [if_neg (show ¬ (false = true) by decide)] at H; exact H
                    clear H
                    have H := H1
                    clear H1
                    obtain rfl := Option.some.inj H
                    obtain ⟨Ao69, co69, eo69⟩ := Kd.R_slice HO_5.out
                    subst eo69
                    go_wp2_with (first | ((with_reducible refine gate_callee (f := 4) rfl ?_); refine goesL_ (some 73) rfl rfl Tryd.func4 (by kernel_rfl) rfl #[.string x7_2] rfl (by (try simp only [List.map_toArray, List.map_cons, List.map_nil]); first | done | rfl | (simp only [List.length_drop, List.length_take]; rfl)) ?_; (with_reducible refine (lexer_Tokens.calls k2 x7_2 t164 t167 t168 _ A43.out).mono ?_); rintro e w70 ⟨v165, rfl, ho0, hb⟩; refine ⟨_, rfl, ?_⟩; have n0_ := Aside0.mk (Kd.R_elder' (by (with_reducible repeat (first | apply Kd.R_alloc | apply Kd.R_drewN | apply Kd.R_drew)); exact HO_5.out) (Kd.R_base ho0) hb); have n1_ := Aside0.mk (Kd.R_lower (Kd.R_new' ho0 (Kd.R_lt (by (with_reducible repeat (first | apply Kd.R_alloc | apply Kd.R_drewN | apply Kd.R_drew)); exact HO_5.out))) (below_size (by repeat (first | (with_reducible first | exact HB.out | apply below_alloc | apply pw_below_drewN | apply below_drew1 | refine below_set ?_ GE158.out) | exact HB.out)))); have n2_ := Aside0.mk (blk_below (g := gb158) (o := .cells #[.int .i64 t156, .int .i64 t157] 25 (0, 0)) (by (with_reducible repeat (first | refine blk_drewN ?_ _ | refine blk_drew ?_ | refine blk_alloc ?_ _)); exact BK158.out) hb); have n3_ := Aside0.mk (below_step (by repeat (first | (with_reducible first | exact HB.out | apply below_alloc | apply pw_below_drewN | apply below_drew1 | refine below_set ?_ GE158.out) | exact HB.out)) hb); clear HO_5; clear BK158; clear HB; have HO_5 := n0_; have HO166 := n1_; have BK158 := n2_; have HB := n3_; clear n0_ n1_ n2_ n3_; (try clear hb); (try clear hb2); (try clear hk); (try clear hi); (try clear ho0)) | ((with_reducible refine gate_dst (N := 11) rfl ?_); (try (refine gate_guard (by rfl) ?_; dsimp only)); refine box_event ?hg (N := 11) ?hd (cs := #[.int .i64 0, .int .i64 0]) (t := 25) ?hr ?_; (case hd => rfl); (case hg => rfl); (case hr => first | (go_simp; done) | (go_simp; rfl)); intro gb169 hg w71 hbox hb; have n0_ := Aside0.mk (Kd.R_below (by (with_reducible repeat (first | apply Kd.R_alloc | apply Kd.R_drewN | apply Kd.R_drew)); exact HO_5.out) hb); have n1_ := Aside0.mk (Kd.R_below (by (with_reducible repeat (first | apply Kd.R_alloc | apply Kd.R_drewN | apply Kd.R_drew)); exact HO166.out) hb); have n2_ := Aside0.mk (blk_below (g := gb158) (o := .cells #[.int .i64 t156, .int .i64 t157] 25 (0, 0)) (by (with_reducible repeat (first | refine blk_drewN ?_ _ | refine blk_drew ?_ | refine blk_alloc ?_ _)); exact BK158.out) hb); have n3_ := Aside0.mk (below_step (by repeat (first | (with_reducible first | exact HB.out | apply below_alloc | apply pw_below_drewN | apply below_drew1 | refine below_set ?_ GE158.out) | exact HB.out)) hb); have n4_ := Aside0.mk (hbox); have n5_ := Aside0.mk ((by rw [hg]; exact (below_size (by repeat (first | (with_reducible first | exact HB.out | apply below_alloc | apply pw_below_drewN | apply below_drew1 | refine below_set ?_ GE158.out) | exact HB.out))) : w.heap.size ≤ gb169)); have n6_ := Aside0.mk ((by rw [hg]; exact (below_size (by repeat (first | (with_reducible first | exact HB.out | apply below_alloc | apply pw_below_drewN | apply below_drew1 | refine below_set ?_ GE158.out) | exact HB.out))) : w.heap.size ≤ gb169)); have n7_ := Aside0.mk ((by rw [hg]; exact Nat.ne_of_lt (blk_lt (g := gb158) (o := .cells #[.int .i64 t156, .int .i64 t157] 25 (0, 0)) (by (with_reducible repeat (first | refine blk_drewN ?_ _ | refine blk_drew ?_ | refine blk_alloc ?_ _)); exact BK158.out)) : gb158 ≠ gb169)); have n8_ := Aside0.mk ((by rw [hg]; exact Nat.ne_of_gt (blk_lt (g := gb158) (o := .cells #[.int .i64 t156, .int .i64 t157] 25 (0, 0)) (by (with_reducible repeat (first | refine blk_drewN ?_ _ | refine blk_drew ?_ | refine blk_alloc ?_ _)); exact BK158.out)) : gb169 ≠ gb158)); clear HO_5; clear HO166; clear BK158; clear HB; have HO_5 := n0_; have HO166 := n1_; have BK158 := n2_; have HB := n3_; have BK169 := n4_; have GW169 := n5_; have GE169 := n6_; have NB158_169 := n7_; have NB169_158 := n8_; clear n0_ n1_ n2_ n3_ n4_ n5_ n6_ n7_ n8_; clear hb hbox hg; have hnb72 := NB169_158.out; have hnc72 := NB158_169.out; have hcz73_0 : w71.cell? ⟨gb169, 0, none⟩ = some (.int .i64 0) := (blk_cell BK169.out 0).trans rfl; have hcz73_1 : w71.cell? ⟨gb169, 1, none⟩ = some (.int .i64 0) := (blk_cell BK169.out 1).trans rfl; have hfz73_0 := blk_frozen BK169.out 0; have hfz73_1 := blk_frozen BK169.out 1; obtain ⟨Ao74, co74, eo74⟩ := Kd.R_slice HO166.out; subst eo74) | (go_at_call 7; (with_reducible refine (chancerylaw19_same.calls k2 _ _ t153 _ _ t164 false _ ?side1 ?side2 ?side3 ?side4 A59.out).mono ?_); (case side1 => refine (Kd.R_reads' (e := 32) (base := w.heap.size) (ok := fun k_ => (True ∧ some k_ ≠ (.slice Ao74 t164.length co74 : Value).ownBlock)) (n := t153.length) (c := co69) ?_).2.2; exact (by (with_reducible repeat (first | apply Kd.R_alloc | apply Kd.R_drewN | apply Kd.R_drew)); exact (Kd.R_mono (Kd.R_far (p := ⟨gb169, 1, none⟩) (Kd.R_far (p := ⟨gb169, 0, none⟩) (Kd.R_types HO_5.out BK169.out (by decide)) (fun _ hk => hk.2) (.int .i64 t167)) (fun _ hk => hk.2) (.int .i64 t168)) (fun _ h_ => h_.1)))); (case side2 => exact (Kd.R_reads' HO_5.out).2.1); (case side3 => refine (Kd.R_reads' (e := 32) (base := w.heap.size) (ok := fun k_ => (True ∧ some k_ ≠ (.slice Ao69 t153.length co69 : Value).ownBlock)) (n := t164.length) (c := co74) ?_).2.2; exact (by (with_reducible repeat (first | apply Kd.R_alloc | apply Kd.R_drewN | apply Kd.R_drew)); exact (Kd.R_mono (Kd.R_far (p := ⟨gb169, 1, none⟩) (Kd.R_far (p := ⟨gb169, 0, none⟩) (Kd.R_types HO166.out BK169.out (by decide)) (fun _ hk => hk.2) (.int .i64 t167)) (fun _ hk => hk.2) (.int .i64 t168)) (fun _ h_ => h_.1)))); (case side4 => exact (Kd.R_reads' HO166.out).2.1); rintro e w' ⟨rfl, ⟨nd, rfl⟩⟩))
                    go_ret
                    exact ⟨by first | rfl | (simp [errW_none, errW_some] <;> rfl) | (simp [*, errW_none, errW_some] <;> rfl), by repeat (first | (with_reducible first | exact HB.out | apply below_alloc | apply pw_below_drewN | apply below_drew1 | refine below_set ?_ GE158.out | refine below_set ?_ GE169.out) | exact HB.out)⟩
                · rw [if_neg c58] at H
                  have c58b0 : (t167 == 0 && (t168 == 0)) = false := by simpa using c58
                  (try (have c58b1 : decide (t167 = 0 && (t168 == 0)) = false := by simpa using c58))
                  (try (have c58b2 : (t167 == 0 && (t168 == 0)) = false := by simpa using c58))
                  (try (have c58b3 : ¬ (t167 = 0 && (t168 == 0)) := by simpa using c58))
                  clear c58
                  obtain rfl := Option.some.inj H
                  obtain ⟨Ao75, co75, eo75⟩ := Kd.R_slice HO_5.out
                  subst eo75
                  go_wp2_with (first | ((with_reducible refine gate_callee (f := 4) rfl ?_); refine goesL_ (some 73) rfl rfl Tryd.func4 (by kernel_rfl) rfl #[.string x7_2] rfl (by (try simp only [List.map_toArray, List.map_cons, List.map_nil]); first | done | rfl | (simp only [List.length_drop, List.length_take]; rfl)) ?_; (with_reducible refine (lexer_Tokens.calls k2 x7_2 t164 t167 t168 _ A43.out).mono ?_); rintro e w76 ⟨v165, rfl, ho0, hb⟩; refine ⟨_, rfl, ?_⟩; have n0_ := Aside0.mk (Kd.R_elder' (by (with_reducible repeat (first | apply Kd.R_alloc | apply Kd.R_drewN | apply Kd.R_drew)); exact HO_5.out) (Kd.R_base ho0) hb); have n1_ := Aside0.mk (Kd.R_lower (Kd.R_new' ho0 (Kd.R_lt (by (with_reducible repeat (first | apply Kd.R_alloc | apply Kd.R_drewN | apply Kd.R_drew)); exact HO_5.out))) (below_size (by repeat (first | (with_reducible first | exact HB.out | apply below_alloc | apply pw_below_drewN | apply below_drew1 | refine below_set ?_ GE158.out) | exact HB.out)))); have n2_ := Aside0.mk (blk_below (g := gb158) (o := .cells #[.int .i64 t156, .int .i64 t157] 25 (0, 0)) (by (with_reducible repeat (first | refine blk_drewN ?_ _ | refine blk_drew ?_ | refine blk_alloc ?_ _)); exact BK158.out) hb); have n3_ := Aside0.mk (below_step (by repeat (first | (with_reducible first | exact HB.out | apply below_alloc | apply pw_below_drewN | apply below_drew1 | refine below_set ?_ GE158.out) | exact HB.out)) hb); clear HO_5; clear BK158; clear HB; have HO_5 := n0_; have HO166 := n1_; have BK158 := n2_; have HB := n3_; clear n0_ n1_ n2_ n3_; (try clear hb); (try clear hb2); (try clear hk); (try clear hi); (try clear ho0)) | ((with_reducible refine gate_dst (N := 11) rfl ?_); (try (refine gate_guard (by rfl) ?_; dsimp only)); refine box_event ?hg (N := 11) ?hd (cs := #[.int .i64 0, .int .i64 0]) (t := 25) ?hr ?_; (case hd => rfl); (case hg => rfl); (case hr => first | (go_simp; done) | (go_simp; rfl)); intro gb169 hg w77 hbox hb; have n0_ := Aside0.mk (Kd.R_below (by (with_reducible repeat (first | apply Kd.R_alloc | apply Kd.R_drewN | apply Kd.R_drew)); exact HO_5.out) hb); have n1_ := Aside0.mk (Kd.R_below (by (with_reducible repeat (first | apply Kd.R_alloc | apply Kd.R_drewN | apply Kd.R_drew)); exact HO166.out) hb); have n2_ := Aside0.mk (blk_below (g := gb158) (o := .cells #[.int .i64 t156, .int .i64 t157] 25 (0, 0)) (by (with_reducible repeat (first | refine blk_drewN ?_ _ | refine blk_drew ?_ | refine blk_alloc ?_ _)); exact BK158.out) hb); have n3_ := Aside0.mk (below_step (by repeat (first | (with_reducible first | exact HB.out | apply below_alloc | apply pw_below_drewN | apply below_drew1 | refine below_set ?_ GE158.out) | exact HB.out)) hb); have n4_ := Aside0.mk (hbox); have n5_ := Aside0.mk ((by rw [hg]; exact (below_size (by repeat (first | (with_reducible first | exact HB.out | apply below_alloc | apply pw_below_drewN | apply below_drew1 | refine below_set ?_ GE158.out) | exact HB.out))) : w.heap.size ≤ gb169)); have n6_ := Aside0.mk ((by rw [hg]; exact (below_size (by repeat (first | (with_reducible first | exact HB.out | apply below_alloc | apply pw_below_drewN | apply below_drew1 | refine below_set ?_ GE158.out) | exact HB.out))) : w.heap.size ≤ gb169)); have n7_ := Aside0.mk ((by rw [hg]; exact Nat.ne_of_lt (blk_lt (g := gb158) (o := .cells #[.int .i64 t156, .int .i64 t157] 25 (0, 0)) (by (with_reducible repeat (first | refine blk_drewN ?_ _ | refine blk_drew ?_ | refine blk_alloc ?_ _)); exact BK158.out)) : gb158 ≠ gb169)); have n8_ := Aside0.mk ((by rw [hg]; exact Nat.ne_of_gt (blk_lt (g := gb158) (o := .cells #[.int .i64 t156, .int .i64 t157] 25 (0, 0)) (by (with_reducible repeat (first | refine blk_drewN ?_ _ | refine blk_drew ?_ | refine blk_alloc ?_ _)); exact BK158.out)) : gb169 ≠ gb158)); clear HO_5; clear HO166; clear BK158; clear HB; have HO_5 := n0_; have HO166 := n1_; have BK158 := n2_; have HB := n3_; have BK169 := n4_; have GW169 := n5_; have GE169 := n6_; have NB158_169 := n7_; have NB169_158 := n8_; clear n0_ n1_ n2_ n3_ n4_ n5_ n6_ n7_ n8_; clear hb hbox hg; have hnb78 := NB169_158.out; have hnc78 := NB158_169.out; have hcz79_0 : w77.cell? ⟨gb169, 0, none⟩ = some (.int .i64 0) := (blk_cell BK169.out 0).trans rfl; have hcz79_1 : w77.cell? ⟨gb169, 1, none⟩ = some (.int .i64 0) := (blk_cell BK169.out 1).trans rfl; have hfz79_0 := blk_frozen BK169.out 0; have hfz79_1 := blk_frozen BK169.out 1))
                  go_ret
                  exact ⟨by first | rfl | (simp [errW_none, errW_some] <;> rfl) | (simp [*, errW_none, errW_some] <;> rfl), by repeat (first | (with_reducible first | exact HB.out | apply below_alloc | apply pw_below_drewN | apply below_drew1 | refine below_set ?_ GE158.out | refine below_set ?_ GE169.out) | exact HB.out)⟩

/-- THE ONE PURE STATEMENT of chancerylaw19_LexerSpaces: yours. -/
def chancerylaw19_LexerSpaces.Pure : Prop := ∀ (a0 : ByteArray) (a1 : ByteArray), a0.size ≤ 140737488351232 → a1.size ≤ 140737488351232 → ∃ k, chancerylaw19_LexerSpaces.f k a0 a1 = some true
theorem chancerylaw19_LexerSpaces.walk (P : chancerylaw19_LexerSpaces.Pure) (a0 : ByteArray) (a1 : ByteArray) (w : World) (w0 : a0.size ≤ 140737488351232) (w1 : a1.size ≤ 140737488351232) (hg : GlobOK w) :
    Calls Tryd.prog 3 #[.string a0, .string a1] w fun e w' => e = .returned (.bool true) ∧ Below w.heap.size w w' := by
  obtain ⟨k, h⟩ := P a0 a1 w0 w1
  refine (chancerylaw19_LexerSpaces.calls k a0 a1 true w h hg).mono ?_
  rintro e w' ⟨rfl, hd⟩
  exact ⟨rfl, hd⟩

end Go.Proofs.YtnmdlimpfckicaaDoor.Q

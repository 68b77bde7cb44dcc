/- Merged out of this session's texts: Qxf7 -/
import Derived.Test.YtbodlnoipkommaaDoorZB6
import Derived.Test.YtbodlnoipkommaaDoorZB1
import Derived.Test.YtbodlnoipkommaaDoorZB8
import Derived.Test.YtbodlnoipkommaaDoorZB7
import Derived.Test.YtbodlnoipkommaaDoorZB11
-- By a program of this session (wip/printx.py) out of the translation. Not trusted: Lean checks it.
namespace Go.Proofs.YtbodlnoipkommaaDoor.Q
open Go.Proofs.YtbodlnoipkommaaDoor.Wf
open Go.Proofs.YtbodlnoipkommaaDoor.Wg Go.Proofs.YtbodlnoipkommaaDoor.Xa
open Go.RowKit Go.Proofs.YtbodlnoipkommaaDoorW.PrintWords Go.Proofs.YtbodlnoipkommaaDoorW.PrintLast Go.Proofs.YtbodlnoipkommaaDoorW.PrintMore
attribute [local go_sem] max2_int min2_int max_two min_two max_three min_three max_four min_four   -- for this text's walks alone
set_option linter.unusedVariables false
set_option linter.unusedSimpArgs false

/-! ### chancerylaw17_ValueLogic: function 7 -/
mutual
def chancerylaw17_ValueLogic.j0 : Nat → Int → Int → Int → Int → Int → Bool → Option (Bool)
  | 0, _, _, _, _, _, _ => none
  | k + 1, x0, x1, x2, x7, x8, x9 => (value_Or.f x0 x1).bind fun t216 => ((value_Or.f x1 x0).bind fun t217 => (if t216 = t217 then ((value_Or.f x1 x2).bind fun t218 => ((value_Or.f x0 t218).bind fun t219 => ((value_Or.f x0 x1).bind fun t220 => ((value_Or.f t220 x2).bind fun t221 => (if t219 = t221 then ((value_Or.f x0 x1).bind fun t222 => ((value_Not.f t222).bind fun t223 => ((value_And.f x7 x8).bind fun t224 => (chancerylaw17_ValueLogic.j1 k x0 x1 x9 (t223 == t224))))) else (chancerylaw17_ValueLogic.j1 k x0 x1 x9 false)))))) else (chancerylaw17_ValueLogic.j1 k x0 x1 x9 false)))
def chancerylaw17_ValueLogic.j1 : Nat → Int → Int → Bool → Bool → Option (Bool)
  | 0, _, _, _, _ => none
  | k + 1, x0, x1, x9, x10 => (value_Not.f x0).bind fun t225 => ((value_Not.f t225).bind fun t226 => ((value_And.f x0 x0).bind fun t227 => (if t226 = t227 then ((value_Or.f x0 x1).bind fun t228 => ((value_And.f x0 t228).bind fun t229 => ((value_Or.f x0 x0).bind fun t230 => (chancerylaw17_ValueLogic.j2 k x0 x9 x10 (t229 == t230))))) else (chancerylaw17_ValueLogic.j2 k x0 x9 x10 false))))
def chancerylaw17_ValueLogic.j2 : Nat → Int → Bool → Bool → Bool → Option (Bool)
  | 0, _, _, _, _ => none
  | k + 1, x0, x9, x10, x11 => (value_Of.f x0).bind fun bt231 => ((value_Truth.f k bt231.1 bt231.2.1 bt231.2.2).bind fun bt234 => (if x9 = true then (if x10 = true then (if x11 = true then (if bt234.2 = 0 then ((value_And.f x0 x0).bind fun t236 => (if bt234.1 = t236 then ((chancerylaw17_awake.f).bind fun t237 => (some t237)) else (some false))) else (some false)) else (some false)) else (some false)) else (some false)))
end
def chancerylaw17_ValueLogic.f (k : Nat) (a0 : Int) (a1 : Int) (a2 : Int) : Option (Bool) := (value_Not.f a0).bind fun t205 => ((value_Not.f a1).bind fun t206 => ((value_And.f a0 a1).bind fun t207 => ((value_And.f a1 a0).bind fun t208 => (if t207 = t208 then ((value_And.f a1 a2).bind fun t209 => ((value_And.f a0 t209).bind fun t210 => ((value_And.f a0 a1).bind fun t211 => ((value_And.f t211 a2).bind fun t212 => (if t210 = t212 then ((value_And.f a0 a1).bind fun t213 => ((value_Not.f t213).bind fun t214 => ((value_Or.f t205 t206).bind fun t215 => (chancerylaw17_ValueLogic.j0 k a0 a1 a2 t205 t206 (t214 == t215))))) else (chancerylaw17_ValueLogic.j0 k a0 a1 a2 t205 t206 false)))))) else (chancerylaw17_ValueLogic.j0 k a0 a1 a2 t205 t206 false)))))
theorem chancerylaw17_ValueLogic.mono_l : ∀ k, (∀ y0 y1 y2 y3 y4 y5, LeO (chancerylaw17_ValueLogic.j0 k y0 y1 y2 y3 y4 y5) (chancerylaw17_ValueLogic.j0 (k + 1) y0 y1 y2 y3 y4 y5)) ∧ (∀ y0 y1 y2 y3, LeO (chancerylaw17_ValueLogic.j1 k y0 y1 y2 y3) (chancerylaw17_ValueLogic.j1 (k + 1) y0 y1 y2 y3)) ∧ (∀ y0 y1 y2 y3, LeO (chancerylaw17_ValueLogic.j2 k y0 y1 y2 y3) (chancerylaw17_ValueLogic.j2 (k + 1) y0 y1 y2 y3))
  | 0 => ⟨fun _ _ _ _ _ _ r h => by simp [chancerylaw17_ValueLogic.j0] at h, fun _ _ _ _ r h => by simp [chancerylaw17_ValueLogic.j1] at h, fun _ _ _ _ r h => by simp [chancerylaw17_ValueLogic.j2] at h⟩
  | k + 1 => by
    obtain ⟨ih0, ih1, ih2⟩ := chancerylaw17_ValueLogic.mono_l k
    refine ⟨?_, ?_, ?_⟩
    · intro y0 y1 y2 y3 y4 y5
      unfold chancerylaw17_ValueLogic.j0
      repeat' first
      | (with_reducible exact ih0 _ _ _ _ _ _)
      | (with_reducible exact ih1 _ _ _ _)
      | (with_reducible exact ih2 _ _ _ _)
      | (with_reducible exact value_Truth.mono _ _ _ _)
      | (with_reducible exact LeO.refl _)
      | (with_reducible exact LeO.none _)
      | (with_reducible refine LeO.ite ?_ ?_)
      | (with_reducible refine LeO.bind ?_ (fun _ => ?_))
      | exact ih0 _ _ _ _ _ _
      | exact ih1 _ _ _ _
      | exact ih2 _ _ _ _
      | exact value_Truth.mono _ _ _ _
      | exact LeO.none _
      | refine LeO.ite ?_ ?_
      | refine LeO.bind ?_ (fun _ => ?_)
    · intro y0 y1 y2 y3
      unfold chancerylaw17_ValueLogic.j1
      repeat' first
      | (with_reducible exact ih0 _ _ _ _ _ _)
      | (with_reducible exact ih1 _ _ _ _)
      | (with_reducible exact ih2 _ _ _ _)
      | (with_reducible exact value_Truth.mono _ _ _ _)
      | (with_reducible exact LeO.refl _)
      | (with_reducible exact LeO.none _)
      | (with_reducible refine LeO.ite ?_ ?_)
      | (with_reducible refine LeO.bind ?_ (fun _ => ?_))
      | exact ih0 _ _ _ _ _ _
      | exact ih1 _ _ _ _
      | exact ih2 _ _ _ _
      | exact value_Truth.mono _ _ _ _
      | exact LeO.none _
      | refine LeO.ite ?_ ?_
      | refine LeO.bind ?_ (fun _ => ?_)
    · intro y0 y1 y2 y3
      unfold chancerylaw17_ValueLogic.j2
      repeat' first
      | (with_reducible exact ih0 _ _ _ _ _ _)
      | (with_reducible exact ih1 _ _ _ _)
      | (with_reducible exact ih2 _ _ _ _)
      | (with_reducible exact value_Truth.mono _ _ _ _)
      | (with_reducible exact LeO.refl _)
      | (with_reducible exact LeO.none _)
      | (with_reducible refine LeO.ite ?_ ?_)
      | (with_reducible refine LeO.bind ?_ (fun _ => ?_))
      | exact ih0 _ _ _ _ _ _
      | exact ih1 _ _ _ _
      | exact ih2 _ _ _ _
      | exact value_Truth.mono _ _ _ _
      | exact LeO.none _
      | refine LeO.ite ?_ ?_
      | refine LeO.bind ?_ (fun _ => ?_)
theorem chancerylaw17_ValueLogic.mono : ∀ a0 a1 a2 k, LeO (chancerylaw17_ValueLogic.f k a0 a1 a2) (chancerylaw17_ValueLogic.f (k + 1) a0 a1 a2) := by
  intro a0 a1 a2 k
  obtain ⟨ih0, ih1, ih2⟩ := chancerylaw17_ValueLogic.mono_l k
  unfold chancerylaw17_ValueLogic.f
  repeat' first
      | (with_reducible exact ih0 _ _ _ _ _ _)
      | (with_reducible exact ih1 _ _ _ _)
      | (with_reducible exact ih2 _ _ _ _)
      | (with_reducible exact value_Truth.mono _ _ _ _)
      | (with_reducible exact LeO.refl _)
      | (with_reducible exact LeO.none _)
      | (with_reducible refine LeO.ite ?_ ?_)
      | (with_reducible refine LeO.bind ?_ (fun _ => ?_))
      | exact ih0 _ _ _ _ _ _
      | exact ih1 _ _ _ _
      | exact ih2 _ _ _ _
      | exact value_Truth.mono _ _ _ _
      | exact LeO.none _
      | refine LeO.ite ?_ ?_
      | refine LeO.bind ?_ (fun _ => ?_)
set_option maxHeartbeats 8000000 in
set_option maxRecDepth 100000 in
theorem chancerylaw17_ValueLogic.calls (k : Nat) (a0 : Int) (a1 : Int) (a2 : Int) (r : Bool) (w : World) (h : chancerylaw17_ValueLogic.f k a0 a1 a2 = some r) (hg : VOK w) :
    Calls Tryd.prog 7 #[.int .u8 a0, .int .u8 a1, .int .u8 a2] w fun e w' => e = .returned (.bool r) ∧ Below w.heap.size w w' := by
  have HG := Aside0.mk hg
  clear hg
  have HB := Aside0.mk (Below.refl w.heap.size w)
  have H : ((value_Not.f a0).bind fun t205 => ((value_Not.f a1).bind fun t206 => ((value_And.f a0 a1).bind fun t207 => ((value_And.f a1 a0).bind fun t208 => (if t207 = t208 then ((value_And.f a1 a2).bind fun t209 => ((value_And.f a0 t209).bind fun t210 => ((value_And.f a0 a1).bind fun t211 => ((value_And.f t211 a2).bind fun t212 => (if t210 = t212 then ((value_And.f a0 a1).bind fun t213 => ((value_Not.f t213).bind fun t214 => ((value_Or.f t205 t206).bind fun t215 => (chancerylaw17_ValueLogic.j0 k a0 a1 a2 t205 t206 (t214 == t215))))) else (chancerylaw17_ValueLogic.j0 k a0 a1 a2 t205 t206 false)))))) else (chancerylaw17_ValueLogic.j0 k a0 a1 a2 t205 t206 false)))))) = some r := h
  clear h
  replace H := Option.bind_eq_some_iff.mp H
  obtain ⟨t205, A40, H⟩ := H
  replace H : ((value_Not.f a1).bind fun t206 => ((value_And.f a0 a1).bind fun t207 => ((value_And.f a1 a0).bind fun t208 => (if t207 = t208 then ((value_And.f a1 a2).bind fun t209 => ((value_And.f a0 t209).bind fun t210 => ((value_And.f a0 a1).bind fun t211 => ((value_And.f t211 a2).bind fun t212 => (if t210 = t212 then ((value_And.f a0 a1).bind fun t213 => ((value_Not.f t213).bind fun t214 => ((value_Or.f t205 t206).bind fun t215 => (chancerylaw17_ValueLogic.j0 k a0 a1 a2 t205 t206 (t214 == t215))))) else (chancerylaw17_ValueLogic.j0 k a0 a1 a2 t205 t206 false)))))) else (chancerylaw17_ValueLogic.j0 k a0 a1 a2 t205 t206 false))))) = some r := H
  have A4 := Aside0.mk A40
  clear A40
  replace H := Option.bind_eq_some_iff.mp H
  obtain ⟨t206, A50, H⟩ := H
  replace H : ((value_And.f a0 a1).bind fun t207 => ((value_And.f a1 a0).bind fun t208 => (if t207 = t208 then ((value_And.f a1 a2).bind fun t209 => ((value_And.f a0 t209).bind fun t210 => ((value_And.f a0 a1).bind fun t211 => ((value_And.f t211 a2).bind fun t212 => (if t210 = t212 then ((value_And.f a0 a1).bind fun t213 => ((value_Not.f t213).bind fun t214 => ((value_Or.f t205 t206).bind fun t215 => (chancerylaw17_ValueLogic.j0 k a0 a1 a2 t205 t206 (t214 == t215))))) else (chancerylaw17_ValueLogic.j0 k a0 a1 a2 t205 t206 false)))))) else (chancerylaw17_ValueLogic.j0 k a0 a1 a2 t205 t206 false)))) = some r := H
  have A5 := Aside0.mk A50
  clear A50
  have HC6 := Aside0.mk H
  clear H
  go_enter Tryd.func7, Tryd.ntmps7
  go_upto_region 2 with (first | ((with_reducible refine gate_callee (f := 18) rfl ?_); refine goesL_ (some 15) rfl rfl Tryd.func18 (by kernel_rfl) rfl #[.int .u8 a0] rfl (by (try simp only [List.map_toArray, List.map_cons, List.map_nil]); first | done | rfl | (simp only [List.length_drop, List.length_take]; rfl)) ?_; (with_reducible refine (value_Not.calls a0 t205 _ A4.out (by first | exact HG.out | exact VOK.drawn HG.out ⟨⟨_, rfl⟩⟩ | exact VOK.below HG.out (by repeat (first | (with_reducible first | exact HB.out | apply below_alloc | apply pw_below_drewN | apply below_drew1) | exact HB.out)))).mono ?_); rintro e w' ⟨rfl, ⟨nd, rfl⟩⟩; refine ⟨_, rfl, ?_⟩) | ((with_reducible refine gate_callee (f := 18) rfl ?_); refine goesL_ (some 17) rfl rfl Tryd.func18 (by kernel_rfl) rfl #[.int .u8 a1] rfl (by (try simp only [List.map_toArray, List.map_cons, List.map_nil]); first | done | rfl | (simp only [List.length_drop, List.length_take]; rfl)) ?_; (with_reducible refine (value_Not.calls a1 t206 _ A5.out (by first | exact HG.out | exact VOK.drawn HG.out ⟨⟨_, rfl⟩⟩ | exact VOK.below HG.out (by repeat (first | (with_reducible first | exact HB.out | apply below_alloc | apply pw_below_drewN | apply below_drew1) | exact HB.out)))).mono ?_); rintro e w' ⟨rfl, ⟨nd, rfl⟩⟩; refine ⟨_, rfl, ?_⟩))
  (try simp only [Act.put, List.setIfInBounds_toArray, List.set_cons_zero, List.set_cons_succ])
  go_cut [9] (fun v9 wc => ∃ (kq : Nat) (x9_5 : Bool), v9 = .bool x9_5 ∧ Aside0 (chancerylaw17_ValueLogic.j0 kq a0 a1 a2 t205 t206 x9_5 = some r) ∧ Aside0 (kq ≤ k) ∧ Aside0 (Below w.heap.size w wc))
  case first =>
    have H := HC6.out
    clear HC6
    replace H := Option.bind_eq_some_iff.mp H
    obtain ⟨t207, A70, H⟩ := H
    replace H : ((value_And.f a1 a0).bind fun t208 => (if t207 = t208 then ((value_And.f a1 a2).bind fun t209 => ((value_And.f a0 t209).bind fun t210 => ((value_And.f a0 a1).bind fun t211 => ((value_And.f t211 a2).bind fun t212 => (if t210 = t212 then ((value_And.f a0 a1).bind fun t213 => ((value_Not.f t213).bind fun t214 => ((value_Or.f t205 t206).bind fun t215 => (chancerylaw17_ValueLogic.j0 k a0 a1 a2 t205 t206 (t214 == t215))))) else (chancerylaw17_ValueLogic.j0 k a0 a1 a2 t205 t206 false)))))) else (chancerylaw17_ValueLogic.j0 k a0 a1 a2 t205 t206 false))) = some r := H
    have A7 := Aside0.mk A70
    clear A70
    replace H := Option.bind_eq_some_iff.mp H
    obtain ⟨t208, A80, H⟩ := H
    replace H : (if t207 = t208 then ((value_And.f a1 a2).bind fun t209 => ((value_And.f a0 t209).bind fun t210 => ((value_And.f a0 a1).bind fun t211 => ((value_And.f t211 a2).bind fun t212 => (if t210 = t212 then ((value_And.f a0 a1).bind fun t213 => ((value_Not.f t213).bind fun t214 => ((value_Or.f t205 t206).bind fun t215 => (chancerylaw17_ValueLogic.j0 k a0 a1 a2 t205 t206 (t214 == t215))))) else (chancerylaw17_ValueLogic.j0 k a0 a1 a2 t205 t206 false)))))) else (chancerylaw17_ValueLogic.j0 k a0 a1 a2 t205 t206 false)) = some r := H
    have A8 := Aside0.mk A80
    clear A80
    by_cases c9 : t207 = t208
    · rw [if_pos c9] at H
      have c9b0 : (t207 == t208) = true := beq_iff_eq.mpr c9
      have c9b1 : (t207 != t208) = false := bne_eq_false_iff_eq.mpr c9
      clear c9
      (first | rw [c9b0] | (simp only [i64_w, i32_w]; rw [c9b0]) | skip)
      replace H := Option.bind_eq_some_iff.mp H
      obtain ⟨t209, A100, H⟩ := H
      replace H : ((value_And.f a0 t209).bind fun t210 => ((value_And.f a0 a1).bind fun t211 => ((value_And.f t211 a2).bind fun t212 => (if t210 = t212 then ((value_And.f a0 a1).bind fun t213 => ((value_Not.f t213).bind fun t214 => ((value_Or.f t205 t206).bind fun t215 => (chancerylaw17_ValueLogic.j0 k a0 a1 a2 t205 t206 (t214 == t215))))) else (chancerylaw17_ValueLogic.j0 k a0 a1 a2 t205 t206 false))))) = some r := H
      have A10 := Aside0.mk A100
      clear A100
      replace H := Option.bind_eq_some_iff.mp H
      obtain ⟨t210, A110, H⟩ := H
      replace H : ((value_And.f a0 a1).bind fun t211 => ((value_And.f t211 a2).bind fun t212 => (if t210 = t212 then ((value_And.f a0 a1).bind fun t213 => ((value_Not.f t213).bind fun t214 => ((value_Or.f t205 t206).bind fun t215 => (chancerylaw17_ValueLogic.j0 k a0 a1 a2 t205 t206 (t214 == t215))))) else (chancerylaw17_ValueLogic.j0 k a0 a1 a2 t205 t206 false)))) = some r := H
      have A11 := Aside0.mk A110
      clear A110
      replace H := Option.bind_eq_some_iff.mp H
      obtain ⟨t211, A120, H⟩ := H
      obtain rfl : t207 = t211 := Option.some.inj (A7.out.symm.trans A120)
      replace H : ((value_And.f t207 a2).bind fun t212 => (if t210 = t212 then ((value_And.f a0 a1).bind fun t213 => ((value_Not.f t213).bind fun t214 => ((value_Or.f t205 t206).bind fun t215 => (chancerylaw17_ValueLogic.j0 k a0 a1 a2 t205 t206 (t214 == t215))))) else (chancerylaw17_ValueLogic.j0 k a0 a1 a2 t205 t206 false))) = some r := H
      have A12 := Aside0.mk A120
      clear A120
      replace H := Option.bind_eq_some_iff.mp H
      obtain ⟨t212, A130, H⟩ := H
      replace H : (if t210 = t212 then ((value_And.f a0 a1).bind fun t213 => ((value_Not.f t213).bind fun t214 => ((value_Or.f t205 t206).bind fun t215 => (chancerylaw17_ValueLogic.j0 k a0 a1 a2 t205 t206 (t214 == t215))))) else (chancerylaw17_ValueLogic.j0 k a0 a1 a2 t205 t206 false)) = some r := H
      have A13 := Aside0.mk A130
      clear A130
      by_cases c14 : t210 = t212
      · rw [if_pos c14] at H
        have c14b0 : (t210 == t212) = true := beq_iff_eq.mpr c14
        have c14b1 : (t210 != t212) = false := bne_eq_false_iff_eq.mpr c14
        clear c14
        replace H := Option.bind_eq_some_iff.mp H
        obtain ⟨t213, A150, H⟩ := H
        obtain rfl : t207 = t213 := Option.some.inj (A7.out.symm.trans A150)
        replace H : ((value_Not.f t207).bind fun t214 => ((value_Or.f t205 t206).bind fun t215 => (chancerylaw17_ValueLogic.j0 k a0 a1 a2 t205 t206 (t214 == t215)))) = some r := H
        have A15 := Aside0.mk A150
        clear A150
        replace H := Option.bind_eq_some_iff.mp H
        obtain ⟨t214, A160, H⟩ := H
        replace H : ((value_Or.f t205 t206).bind fun t215 => (chancerylaw17_ValueLogic.j0 k a0 a1 a2 t205 t206 (t214 == t215))) = some r := H
        have A16 := Aside0.mk A160
        clear A160
        replace H := Option.bind_eq_some_iff.mp H
        obtain ⟨t215, A170, H⟩ := H
        replace H : (chancerylaw17_ValueLogic.j0 k a0 a1 a2 t205 t206 (t214 == t215)) = some r := H
        have A17 := Aside0.mk A170
        clear A170
        have H' := Aside0.mk H
        clear H
        go_wp2_with (first | ((with_reducible refine gate_callee (f := 26) rfl ?_); refine goesL_ (some 20) rfl rfl Tryd.func26 (by kernel_rfl) rfl #[.int .u8 a0, .int .u8 a1] rfl (by (try simp only [List.map_toArray, List.map_cons, List.map_nil]); first | done | rfl | (simp only [List.length_drop, List.length_take]; rfl)) ?_; (with_reducible refine (value_And.calls a0 a1 t207 _ A7.out (by first | exact HG.out | exact VOK.drawn HG.out ⟨⟨_, rfl⟩⟩ | exact VOK.below HG.out (by repeat (first | (with_reducible first | exact HB.out | apply below_alloc | apply pw_below_drewN | apply below_drew1) | exact HB.out)))).mono ?_); rintro e w' ⟨rfl, ⟨nd, rfl⟩⟩; refine ⟨_, rfl, ?_⟩) | ((with_reducible refine gate_callee (f := 26) rfl ?_); refine goesL_ (some 23) rfl rfl Tryd.func26 (by kernel_rfl) rfl #[.int .u8 a1, .int .u8 a0] rfl (by (try simp only [List.map_toArray, List.map_cons, List.map_nil]); first | done | rfl | (simp only [List.length_drop, List.length_take]; rfl)) ?_; (with_reducible refine (value_And.calls a1 a0 t208 _ A8.out (by first | exact HG.out | exact VOK.drawn HG.out ⟨⟨_, rfl⟩⟩ | exact VOK.below HG.out (by repeat (first | (with_reducible first | exact HB.out | apply below_alloc | apply pw_below_drewN | apply below_drew1) | exact HB.out)))).mono ?_); rintro e w' ⟨rfl, ⟨nd, rfl⟩⟩; refine ⟨_, rfl, ?_⟩) | (go_at_call 26; (with_reducible refine (value_And.calls a1 a2 t209 _ A10.out (by first | exact HG.out | exact VOK.drawn HG.out ⟨⟨_, rfl⟩⟩ | exact VOK.below HG.out (by repeat (first | (with_reducible first | exact HB.out | apply below_alloc | apply pw_below_drewN | apply below_drew1) | exact HB.out)))).mono ?_); rintro e w' ⟨rfl, ⟨nd, rfl⟩⟩) | (go_at_call 26; (with_reducible refine (value_And.calls a0 t209 t210 _ A11.out (by first | exact HG.out | exact VOK.drawn HG.out ⟨⟨_, rfl⟩⟩ | exact VOK.below HG.out (by repeat (first | (with_reducible first | exact HB.out | apply below_alloc | apply pw_below_drewN | apply below_drew1) | exact HB.out)))).mono ?_); rintro e w' ⟨rfl, ⟨nd, rfl⟩⟩) | (go_at_call 26; (with_reducible refine (value_And.calls a0 a1 t207 _ A12.out (by first | exact HG.out | exact VOK.drawn HG.out ⟨⟨_, rfl⟩⟩ | exact VOK.below HG.out (by repeat (first | (with_reducible first | exact HB.out | apply below_alloc | apply pw_below_drewN | apply below_drew1) | exact HB.out)))).mono ?_); rintro e w' ⟨rfl, ⟨nd, rfl⟩⟩) | (go_at_call 26; (with_reducible refine (value_And.calls t207 a2 t212 _ A13.out (by first | exact HG.out | exact VOK.drawn HG.out ⟨⟨_, rfl⟩⟩ | exact VOK.below HG.out (by repeat (first | (with_reducible first | exact HB.out | apply below_alloc | apply pw_below_drewN | apply below_drew1) | exact HB.out)))).mono ?_); rintro e w' ⟨rfl, ⟨nd, rfl⟩⟩) | (go_at_call 26; (with_reducible refine (value_And.calls a0 a1 t207 _ A15.out (by first | exact HG.out | exact VOK.drawn HG.out ⟨⟨_, rfl⟩⟩ | exact VOK.below HG.out (by repeat (first | (with_reducible first | exact HB.out | apply below_alloc | apply pw_below_drewN | apply below_drew1) | exact HB.out)))).mono ?_); rintro e w' ⟨rfl, ⟨nd, rfl⟩⟩) | (go_at_call 18; (with_reducible refine (value_Not.calls t207 t214 _ A16.out (by first | exact HG.out | exact VOK.drawn HG.out ⟨⟨_, rfl⟩⟩ | exact VOK.below HG.out (by repeat (first | (with_reducible first | exact HB.out | apply below_alloc | apply pw_below_drewN | apply below_drew1) | exact HB.out)))).mono ?_); rintro e w' ⟨rfl, ⟨nd, rfl⟩⟩) | (go_at_call 27; (with_reducible refine (value_Or.calls t205 t206 t215 _ A17.out (by first | exact HG.out | exact VOK.drawn HG.out ⟨⟨_, rfl⟩⟩ | exact VOK.below HG.out (by repeat (first | (with_reducible first | exact HB.out | apply below_alloc | apply pw_below_drewN | apply below_drew1) | exact HB.out)))).mono ?_); rintro e w' ⟨rfl, ⟨nd, rfl⟩⟩))
        go_meet
        case rel => exact ⟨_, ((t214 == t215)), (by first | rfl | (simp; done) | (simp [*]; done)), H', ⟨by first | omega | exact Nat.le_refl _⟩, ⟨by repeat (first | (with_reducible first | exact HB.out | apply below_alloc | apply pw_below_drewN | apply below_drew1) | exact HB.out)⟩⟩
      · rw [if_neg c14] at H
        have c14b0 : (t210 == t212) = false := beq_eq_false_iff_ne.mpr c14
        have c14b1 : (t210 != t212) = true := bne_iff_ne.mpr c14
        have H' := Aside0.mk H
        clear H
        go_wp2_with (first | ((with_reducible refine gate_callee (f := 26) rfl ?_); refine goesL_ (some 20) rfl rfl Tryd.func26 (by kernel_rfl) rfl #[.int .u8 a0, .int .u8 a1] rfl (by (try simp only [List.map_toArray, List.map_cons, List.map_nil]); first | done | rfl | (simp only [List.length_drop, List.length_take]; rfl)) ?_; (with_reducible refine (value_And.calls a0 a1 t207 _ A7.out (by first | exact HG.out | exact VOK.drawn HG.out ⟨⟨_, rfl⟩⟩ | exact VOK.below HG.out (by repeat (first | (with_reducible first | exact HB.out | apply below_alloc | apply pw_below_drewN | apply below_drew1) | exact HB.out)))).mono ?_); rintro e w' ⟨rfl, ⟨nd, rfl⟩⟩; refine ⟨_, rfl, ?_⟩) | ((with_reducible refine gate_callee (f := 26) rfl ?_); refine goesL_ (some 23) rfl rfl Tryd.func26 (by kernel_rfl) rfl #[.int .u8 a1, .int .u8 a0] rfl (by (try simp only [List.map_toArray, List.map_cons, List.map_nil]); first | done | rfl | (simp only [List.length_drop, List.length_take]; rfl)) ?_; (with_reducible refine (value_And.calls a1 a0 t208 _ A8.out (by first | exact HG.out | exact VOK.drawn HG.out ⟨⟨_, rfl⟩⟩ | exact VOK.below HG.out (by repeat (first | (with_reducible first | exact HB.out | apply below_alloc | apply pw_below_drewN | apply below_drew1) | exact HB.out)))).mono ?_); rintro e w' ⟨rfl, ⟨nd, rfl⟩⟩; refine ⟨_, rfl, ?_⟩) | (go_at_call 26; (with_reducible refine (value_And.calls a1 a2 t209 _ A10.out (by first | exact HG.out | exact VOK.drawn HG.out ⟨⟨_, rfl⟩⟩ | exact VOK.below HG.out (by repeat (first | (with_reducible first | exact HB.out | apply below_alloc | apply pw_below_drewN | apply below_drew1) | exact HB.out)))).mono ?_); rintro e w' ⟨rfl, ⟨nd, rfl⟩⟩) | (go_at_call 26; (with_reducible refine (value_And.calls a0 t209 t210 _ A11.out (by first | exact HG.out | exact VOK.drawn HG.out ⟨⟨_, rfl⟩⟩ | exact VOK.below HG.out (by repeat (first | (with_reducible first | exact HB.out | apply below_alloc | apply pw_below_drewN | apply below_drew1) | exact HB.out)))).mono ?_); rintro e w' ⟨rfl, ⟨nd, rfl⟩⟩) | (go_at_call 26; (with_reducible refine (value_And.calls a0 a1 t207 _ A12.out (by first | exact HG.out | exact VOK.drawn HG.out ⟨⟨_, rfl⟩⟩ | exact VOK.below HG.out (by repeat (first | (with_reducible first | exact HB.out | apply below_alloc | apply pw_below_drewN | apply below_drew1) | exact HB.out)))).mono ?_); rintro e w' ⟨rfl, ⟨nd, rfl⟩⟩) | (go_at_call 26; (with_reducible refine (value_And.calls t207 a2 t212 _ A13.out (by first | exact HG.out | exact VOK.drawn HG.out ⟨⟨_, rfl⟩⟩ | exact VOK.below HG.out (by repeat (first | (with_reducible first | exact HB.out | apply below_alloc | apply pw_below_drewN | apply below_drew1) | exact HB.out)))).mono ?_); rintro e w' ⟨rfl, ⟨nd, rfl⟩⟩))
        go_meet
        case rel => exact ⟨_, (false), (by first | rfl | (simp; done) | (simp [*]; done)), H', ⟨by first | omega | exact Nat.le_refl _⟩, ⟨by repeat (first | (with_reducible first | exact HB.out | apply below_alloc | apply pw_below_drewN | apply below_drew1) | exact HB.out)⟩⟩
    · rw [if_neg c9] at H
      have c9b0 : (t207 == t208) = false := beq_eq_false_iff_ne.mpr c9
      have c9b1 : (t207 != t208) = true := bne_iff_ne.mpr c9
      (first | rw [c9b0] | (simp only [i64_w, i32_w]; rw [c9b0]) | skip)
      have H' := Aside0.mk H
      clear H
      go_wp2_with (first | ((with_reducible refine gate_callee (f := 26) rfl ?_); refine goesL_ (some 20) rfl rfl Tryd.func26 (by kernel_rfl) rfl #[.int .u8 a0, .int .u8 a1] rfl (by (try simp only [List.map_toArray, List.map_cons, List.map_nil]); first | done | rfl | (simp only [List.length_drop, List.length_take]; rfl)) ?_; (with_reducible refine (value_And.calls a0 a1 t207 _ A7.out (by first | exact HG.out | exact VOK.drawn HG.out ⟨⟨_, rfl⟩⟩ | exact VOK.below HG.out (by repeat (first | (with_reducible first | exact HB.out | apply below_alloc | apply pw_below_drewN | apply below_drew1) | exact HB.out)))).mono ?_); rintro e w' ⟨rfl, ⟨nd, rfl⟩⟩; refine ⟨_, rfl, ?_⟩) | ((with_reducible refine gate_callee (f := 26) rfl ?_); refine goesL_ (some 23) rfl rfl Tryd.func26 (by kernel_rfl) rfl #[.int .u8 a1, .int .u8 a0] rfl (by (try simp only [List.map_toArray, List.map_cons, List.map_nil]); first | done | rfl | (simp only [List.length_drop, List.length_take]; rfl)) ?_; (with_reducible refine (value_And.calls a1 a0 t208 _ A8.out (by first | exact HG.out | exact VOK.drawn HG.out ⟨⟨_, rfl⟩⟩ | exact VOK.below HG.out (by repeat (first | (with_reducible first | exact HB.out | apply below_alloc | apply pw_below_drewN | apply below_drew1) | exact HB.out)))).mono ?_); rintro e w' ⟨rfl, ⟨nd, rfl⟩⟩; refine ⟨_, rfl, ?_⟩))
      go_meet
      case rel => exact ⟨_, (false), (by first | rfl | (simp; done) | (simp [*]; done)), H', ⟨by first | omega | exact Nat.le_refl _⟩, ⟨by repeat (first | (with_reducible first | exact HB.out | apply below_alloc | apply pw_below_drewN | apply below_drew1) | exact HB.out)⟩⟩
  case rest =>
    clear HC6
    try clear c1
    try clear c2
    try clear p2
    try clear c7
    try clear c9
    try clear c9b0
    try clear c9b1
    try clear c14
    try clear c14b0
    try clear c14b1
    obtain ⟨kq, x9_5, rfl, HA, HJ5, HB⟩ := hcut
    cases kq with
    | zero => exact absurd HA.out (by simp [chancerylaw17_ValueLogic.j0])
    | succ kj5 =>
      have H := HA.out
      clear HA
      simp only [chancerylaw17_ValueLogic.j0] at H
      have HC18 := Aside0.mk H
      clear H
      go_upto_region 3 with (fail)
      go_cut [10] (fun v10 wc => ∃ (kq : Nat) (x10_17 : Bool), v10 = .bool x10_17 ∧ Aside0 (chancerylaw17_ValueLogic.j1 kq a0 a1 x9_5 x10_17 = some r) ∧ Aside0 (kq ≤ kj5) ∧ Aside0 (Below w.heap.size w wc))
      case first =>
        have H := HC18.out
        clear HC18
        replace H := Option.bind_eq_some_iff.mp H
        obtain ⟨t216, A190, H⟩ := H
        replace H : ((value_Or.f a1 a0).bind fun t217 => (if t216 = t217 then ((value_Or.f a1 a2).bind fun t218 => ((value_Or.f a0 t218).bind fun t219 => ((value_Or.f a0 a1).bind fun t220 => ((value_Or.f t220 a2).bind fun t221 => (if t219 = t221 then ((value_Or.f a0 a1).bind fun t222 => ((value_Not.f t222).bind fun t223 => ((value_And.f t205 t206).bind fun t224 => (chancerylaw17_ValueLogic.j1 kj5 a0 a1 x9_5 (t223 == t224))))) else (chancerylaw17_ValueLogic.j1 kj5 a0 a1 x9_5 false)))))) else (chancerylaw17_ValueLogic.j1 kj5 a0 a1 x9_5 false))) = some r := H
        have A19 := Aside0.mk A190
        clear A190
        replace H := Option.bind_eq_some_iff.mp H
        obtain ⟨t217, A200, H⟩ := H
        replace H : (if t216 = t217 then ((value_Or.f a1 a2).bind fun t218 => ((value_Or.f a0 t218).bind fun t219 => ((value_Or.f a0 a1).bind fun t220 => ((value_Or.f t220 a2).bind fun t221 => (if t219 = t221 then ((value_Or.f a0 a1).bind fun t222 => ((value_Not.f t222).bind fun t223 => ((value_And.f t205 t206).bind fun t224 => (chancerylaw17_ValueLogic.j1 kj5 a0 a1 x9_5 (t223 == t224))))) else (chancerylaw17_ValueLogic.j1 kj5 a0 a1 x9_5 false)))))) else (chancerylaw17_ValueLogic.j1 kj5 a0 a1 x9_5 false)) = some r := H
        have A20 := Aside0.mk A200
        clear A200
        by_cases c21 : t216 = t217
        · rw [if_pos c21] at H
          have c21b0 : (t216 == t217) = true := beq_iff_eq.mpr c21
          have c21b1 : (t216 != t217) = false := bne_eq_false_iff_eq.mpr c21
          clear c21
          (first | rw [c21b0] | (simp only [i64_w, i32_w]; rw [c21b0]) | skip)
          replace H := Option.bind_eq_some_iff.mp H
          obtain ⟨t218, A220, H⟩ := H
          replace H : ((value_Or.f a0 t218).bind fun t219 => ((value_Or.f a0 a1).bind fun t220 => ((value_Or.f t220 a2).bind fun t221 => (if t219 = t221 then ((value_Or.f a0 a1).bind fun t222 => ((value_Not.f t222).bind fun t223 => ((value_And.f t205 t206).bind fun t224 => (chancerylaw17_ValueLogic.j1 kj5 a0 a1 x9_5 (t223 == t224))))) else (chancerylaw17_ValueLogic.j1 kj5 a0 a1 x9_5 false))))) = some r := H
          have A22 := Aside0.mk A220
          clear A220
          replace H := Option.bind_eq_some_iff.mp H
          obtain ⟨t219, A230, H⟩ := H
          replace H : ((value_Or.f a0 a1).bind fun t220 => ((value_Or.f t220 a2).bind fun t221 => (if t219 = t221 then ((value_Or.f a0 a1).bind fun t222 => ((value_Not.f t222).bind fun t223 => ((value_And.f t205 t206).bind fun t224 => (chancerylaw17_ValueLogic.j1 kj5 a0 a1 x9_5 (t223 == t224))))) else (chancerylaw17_ValueLogic.j1 kj5 a0 a1 x9_5 false)))) = some r := H
          have A23 := Aside0.mk A230
          clear A230
          replace H := Option.bind_eq_some_iff.mp H
          obtain ⟨t220, A240, H⟩ := H
          obtain rfl : t216 = t220 := Option.some.inj (A19.out.symm.trans A240)
          replace H : ((value_Or.f t216 a2).bind fun t221 => (if t219 = t221 then ((value_Or.f a0 a1).bind fun t222 => ((value_Not.f t222).bind fun t223 => ((value_And.f t205 t206).bind fun t224 => (chancerylaw17_ValueLogic.j1 kj5 a0 a1 x9_5 (t223 == t224))))) else (chancerylaw17_ValueLogic.j1 kj5 a0 a1 x9_5 false))) = some r := H
          have A24 := Aside0.mk A240
          clear A240
          replace H := Option.bind_eq_some_iff.mp H
          obtain ⟨t221, A250, H⟩ := H
          replace H : (if t219 = t221 then ((value_Or.f a0 a1).bind fun t222 => ((value_Not.f t222).bind fun t223 => ((value_And.f t205 t206).bind fun t224 => (chancerylaw17_ValueLogic.j1 kj5 a0 a1 x9_5 (t223 == t224))))) else (chancerylaw17_ValueLogic.j1 kj5 a0 a1 x9_5 false)) = some r := H
          have A25 := Aside0.mk A250
          clear A250
          by_cases c26 : t219 = t221
          · rw [if_pos c26] at H
            have c26b0 : (t219 == t221) = true := beq_iff_eq.mpr c26
            have c26b1 : (t219 != t221) = false := bne_eq_false_iff_eq.mpr c26
            clear c26
            replace H := Option.bind_eq_some_iff.mp H
            obtain ⟨t222, A270, H⟩ := H
            obtain rfl : t216 = t222 := Option.some.inj (A19.out.symm.trans A270)
            replace H : ((value_Not.f t216).bind fun t223 => ((value_And.f t205 t206).bind fun t224 => (chancerylaw17_ValueLogic.j1 kj5 a0 a1 x9_5 (t223 == t224)))) = some r := H
            have A27 := Aside0.mk A270
            clear A270
            replace H := Option.bind_eq_some_iff.mp H
            obtain ⟨t223, A280, H⟩ := H
            replace H : ((value_And.f t205 t206).bind fun t224 => (chancerylaw17_ValueLogic.j1 kj5 a0 a1 x9_5 (t223 == t224))) = some r := H
            have A28 := Aside0.mk A280
            clear A280
            replace H := Option.bind_eq_some_iff.mp H
            obtain ⟨t224, A290, H⟩ := H
            replace H : (chancerylaw17_ValueLogic.j1 kj5 a0 a1 x9_5 (t223 == t224)) = some r := H
            have A29 := Aside0.mk A290
            clear A290
            have H' := Aside0.mk H
            clear H
            go_wp2_with (first | ((with_reducible refine gate_callee (f := 27) rfl ?_); refine goesL_ (some 50) rfl rfl Tryd.func27 (by kernel_rfl) rfl #[.int .u8 a0, .int .u8 a1] rfl (by (try simp only [List.map_toArray, List.map_cons, List.map_nil]); first | done | rfl | (simp only [List.length_drop, List.length_take]; rfl)) ?_; (with_reducible refine (value_Or.calls a0 a1 t216 _ A19.out (by first | exact HG.out | exact VOK.drawn HG.out ⟨⟨_, rfl⟩⟩ | exact VOK.below HG.out (by repeat (first | (with_reducible first | exact HB.out | apply below_alloc | apply pw_below_drewN | apply below_drew1) | exact HB.out)))).mono ?_); rintro e w' ⟨rfl, ⟨nd, rfl⟩⟩; refine ⟨_, rfl, ?_⟩) | ((with_reducible refine gate_callee (f := 27) rfl ?_); refine goesL_ (some 53) rfl rfl Tryd.func27 (by kernel_rfl) rfl #[.int .u8 a1, .int .u8 a0] rfl (by (try simp only [List.map_toArray, List.map_cons, List.map_nil]); first | done | rfl | (simp only [List.length_drop, List.length_take]; rfl)) ?_; (with_reducible refine (value_Or.calls a1 a0 t217 _ A20.out (by first | exact HG.out | exact VOK.drawn HG.out ⟨⟨_, rfl⟩⟩ | exact VOK.below HG.out (by repeat (first | (with_reducible first | exact HB.out | apply below_alloc | apply pw_below_drewN | apply below_drew1) | exact HB.out)))).mono ?_); rintro e w' ⟨rfl, ⟨nd, rfl⟩⟩; refine ⟨_, rfl, ?_⟩) | (go_at_call 27; (with_reducible refine (value_Or.calls a1 a2 t218 _ A22.out (by first | exact HG.out | exact VOK.drawn HG.out ⟨⟨_, rfl⟩⟩ | exact VOK.below HG.out (by repeat (first | (with_reducible first | exact HB.out | apply below_alloc | apply pw_below_drewN | apply below_drew1) | exact HB.out)))).mono ?_); rintro e w' ⟨rfl, ⟨nd, rfl⟩⟩) | (go_at_call 27; (with_reducible refine (value_Or.calls a0 t218 t219 _ A23.out (by first | exact HG.out | exact VOK.drawn HG.out ⟨⟨_, rfl⟩⟩ | exact VOK.below HG.out (by repeat (first | (with_reducible first | exact HB.out | apply below_alloc | apply pw_below_drewN | apply below_drew1) | exact HB.out)))).mono ?_); rintro e w' ⟨rfl, ⟨nd, rfl⟩⟩) | (go_at_call 27; (with_reducible refine (value_Or.calls a0 a1 t216 _ A24.out (by first | exact HG.out | exact VOK.drawn HG.out ⟨⟨_, rfl⟩⟩ | exact VOK.below HG.out (by repeat (first | (with_reducible first | exact HB.out | apply below_alloc | apply pw_below_drewN | apply below_drew1) | exact HB.out)))).mono ?_); rintro e w' ⟨rfl, ⟨nd, rfl⟩⟩) | (go_at_call 27; (with_reducible refine (value_Or.calls t216 a2 t221 _ A25.out (by first | exact HG.out | exact VOK.drawn HG.out ⟨⟨_, rfl⟩⟩ | exact VOK.below HG.out (by repeat (first | (with_reducible first | exact HB.out | apply below_alloc | apply pw_below_drewN | apply below_drew1) | exact HB.out)))).mono ?_); rintro e w' ⟨rfl, ⟨nd, rfl⟩⟩) | (go_at_call 27; (with_reducible refine (value_Or.calls a0 a1 t216 _ A27.out (by first | exact HG.out | exact VOK.drawn HG.out ⟨⟨_, rfl⟩⟩ | exact VOK.below HG.out (by repeat (first | (with_reducible first | exact HB.out | apply below_alloc | apply pw_below_drewN | apply below_drew1) | exact HB.out)))).mono ?_); rintro e w' ⟨rfl, ⟨nd, rfl⟩⟩) | (go_at_call 18; (with_reducible refine (value_Not.calls t216 t223 _ A28.out (by first | exact HG.out | exact VOK.drawn HG.out ⟨⟨_, rfl⟩⟩ | exact VOK.below HG.out (by repeat (first | (with_reducible first | exact HB.out | apply below_alloc | apply pw_below_drewN | apply below_drew1) | exact HB.out)))).mono ?_); rintro e w' ⟨rfl, ⟨nd, rfl⟩⟩) | (go_at_call 26; (with_reducible refine (value_And.calls t205 t206 t224 _ A29.out (by first | exact HG.out | exact VOK.drawn HG.out ⟨⟨_, rfl⟩⟩ | exact VOK.below HG.out (by repeat (first | (with_reducible first | exact HB.out | apply below_alloc | apply pw_below_drewN | apply below_drew1) | exact HB.out)))).mono ?_); rintro e w' ⟨rfl, ⟨nd, rfl⟩⟩))
            go_meet
            case rel => exact ⟨_, ((t223 == t224)), (by first | rfl | (simp; done) | (simp [*]; done)), H', ⟨by have := HJ5.out; first | omega | exact Nat.le_refl _⟩, ⟨by repeat (first | (with_reducible first | exact HB.out | apply below_alloc | apply pw_below_drewN | apply below_drew1) | exact HB.out)⟩⟩
          · rw [if_neg c26] at H
            have c26b0 : (t219 == t221) = false := beq_eq_false_iff_ne.mpr c26
            have c26b1 : (t219 != t221) = true := bne_iff_ne.mpr c26
            have H' := Aside0.mk H
            clear H
            go_wp2_with (first | ((with_reducible refine gate_callee (f := 27) rfl ?_); refine goesL_ (some 50) rfl rfl Tryd.func27 (by kernel_rfl) rfl #[.int .u8 a0, .int .u8 a1] rfl (by (try simp only [List.map_toArray, List.map_cons, List.map_nil]); first | done | rfl | (simp only [List.length_drop, List.length_take]; rfl)) ?_; (with_reducible refine (value_Or.calls a0 a1 t216 _ A19.out (by first | exact HG.out | exact VOK.drawn HG.out ⟨⟨_, rfl⟩⟩ | exact VOK.below HG.out (by repeat (first | (with_reducible first | exact HB.out | apply below_alloc | apply pw_below_drewN | apply below_drew1) | exact HB.out)))).mono ?_); rintro e w' ⟨rfl, ⟨nd, rfl⟩⟩; refine ⟨_, rfl, ?_⟩) | ((with_reducible refine gate_callee (f := 27) rfl ?_); refine goesL_ (some 53) rfl rfl Tryd.func27 (by kernel_rfl) rfl #[.int .u8 a1, .int .u8 a0] rfl (by (try simp only [List.map_toArray, List.map_cons, List.map_nil]); first | done | rfl | (simp only [List.length_drop, List.length_take]; rfl)) ?_; (with_reducible refine (value_Or.calls a1 a0 t217 _ A20.out (by first | exact HG.out | exact VOK.drawn HG.out ⟨⟨_, rfl⟩⟩ | exact VOK.below HG.out (by repeat (first | (with_reducible first | exact HB.out | apply below_alloc | apply pw_below_drewN | apply below_drew1) | exact HB.out)))).mono ?_); rintro e w' ⟨rfl, ⟨nd, rfl⟩⟩; refine ⟨_, rfl, ?_⟩) | (go_at_call 27; (with_reducible refine (value_Or.calls a1 a2 t218 _ A22.out (by first | exact HG.out | exact VOK.drawn HG.out ⟨⟨_, rfl⟩⟩ | exact VOK.below HG.out (by repeat (first | (with_reducible first | exact HB.out | apply below_alloc | apply pw_below_drewN | apply below_drew1) | exact HB.out)))).mono ?_); rintro e w' ⟨rfl, ⟨nd, rfl⟩⟩) | (go_at_call 27; (with_reducible refine (value_Or.calls a0 t218 t219 _ A23.out (by first | exact HG.out | exact VOK.drawn HG.out ⟨⟨_, rfl⟩⟩ | exact VOK.below HG.out (by repeat (first | (with_reducible first | exact HB.out | apply below_alloc | apply pw_below_drewN | apply below_drew1) | exact HB.out)))).mono ?_); rintro e w' ⟨rfl, ⟨nd, rfl⟩⟩) | (go_at_call 27; (with_reducible refine (value_Or.calls a0 a1 t216 _ A24.out (by first | exact HG.out | exact VOK.drawn HG.out ⟨⟨_, rfl⟩⟩ | exact VOK.below HG.out (by repeat (first | (with_reducible first | exact HB.out | apply below_alloc | apply pw_below_drewN | apply below_drew1) | exact HB.out)))).mono ?_); rintro e w' ⟨rfl, ⟨nd, rfl⟩⟩) | (go_at_call 27; (with_reducible refine (value_Or.calls t216 a2 t221 _ A25.out (by first | exact HG.out | exact VOK.drawn HG.out ⟨⟨_, rfl⟩⟩ | exact VOK.below HG.out (by repeat (first | (with_reducible first | exact HB.out | apply below_alloc | apply pw_below_drewN | apply below_drew1) | exact HB.out)))).mono ?_); rintro e w' ⟨rfl, ⟨nd, rfl⟩⟩))
            go_meet
            case rel => exact ⟨_, (false), (by first | rfl | (simp; done) | (simp [*]; done)), H', ⟨by have := HJ5.out; first | omega | exact Nat.le_refl _⟩, ⟨by repeat (first | (with_reducible first | exact HB.out | apply below_alloc | apply pw_below_drewN | apply below_drew1) | exact HB.out)⟩⟩
        · rw [if_neg c21] at H
          have c21b0 : (t216 == t217) = false := beq_eq_false_iff_ne.mpr c21
          have c21b1 : (t216 != t217) = true := bne_iff_ne.mpr c21
          (first | rw [c21b0] | (simp only [i64_w, i32_w]; rw [c21b0]) | skip)
          have H' := Aside0.mk H
          clear H
          go_wp2_with (first | ((with_reducible refine gate_callee (f := 27) rfl ?_); refine goesL_ (some 50) rfl rfl Tryd.func27 (by kernel_rfl) rfl #[.int .u8 a0, .int .u8 a1] rfl (by (try simp only [List.map_toArray, List.map_cons, List.map_nil]); first | done | rfl | (simp only [List.length_drop, List.length_take]; rfl)) ?_; (with_reducible refine (value_Or.calls a0 a1 t216 _ A19.out (by first | exact HG.out | exact VOK.drawn HG.out ⟨⟨_, rfl⟩⟩ | exact VOK.below HG.out (by repeat (first | (with_reducible first | exact HB.out | apply below_alloc | apply pw_below_drewN | apply below_drew1) | exact HB.out)))).mono ?_); rintro e w' ⟨rfl, ⟨nd, rfl⟩⟩; refine ⟨_, rfl, ?_⟩) | ((with_reducible refine gate_callee (f := 27) rfl ?_); refine goesL_ (some 53) rfl rfl Tryd.func27 (by kernel_rfl) rfl #[.int .u8 a1, .int .u8 a0] rfl (by (try simp only [List.map_toArray, List.map_cons, List.map_nil]); first | done | rfl | (simp only [List.length_drop, List.length_take]; rfl)) ?_; (with_reducible refine (value_Or.calls a1 a0 t217 _ A20.out (by first | exact HG.out | exact VOK.drawn HG.out ⟨⟨_, rfl⟩⟩ | exact VOK.below HG.out (by repeat (first | (with_reducible first | exact HB.out | apply below_alloc | apply pw_below_drewN | apply below_drew1) | exact HB.out)))).mono ?_); rintro e w' ⟨rfl, ⟨nd, rfl⟩⟩; refine ⟨_, rfl, ?_⟩))
          go_meet
          case rel => exact ⟨_, (false), (by first | rfl | (simp; done) | (simp [*]; done)), H', ⟨by have := HJ5.out; first | omega | exact Nat.le_refl _⟩, ⟨by repeat (first | (with_reducible first | exact HB.out | apply below_alloc | apply pw_below_drewN | apply below_drew1) | exact HB.out)⟩⟩
      case rest =>
        clear HC18
        try clear c1
        try clear c2
        try clear p2
        try clear c7
        try clear c9
        try clear c9b0
        try clear c9b1
        try clear c14
        try clear c14b0
        try clear c14b1
        try clear c18
        try clear c21
        try clear c21b0
        try clear c21b1
        try clear c26
        try clear c26b0
        try clear c26b1
        try clear c27
        try clear p2
        obtain ⟨kq, x10_17, rfl, HA, HJ17, HB⟩ := hcut
        cases kq with
        | zero => exact absurd HA.out (by simp [chancerylaw17_ValueLogic.j1])
        | succ kj17 =>
          have H := HA.out
          clear HA
          simp only [chancerylaw17_ValueLogic.j1] at H
          have HC30 := Aside0.mk H
          clear H
          go_upto_region 4 with (fail)
          go_cut [11] (fun v11 wc => ∃ (kq : Nat) (x11_29 : Bool), v11 = .bool x11_29 ∧ Aside0 (chancerylaw17_ValueLogic.j2 kq a0 x9_5 x10_17 x11_29 = some r) ∧ Aside0 (kq ≤ kj17) ∧ Aside0 (Below w.heap.size w wc))
          case first =>
            have H := HC30.out
            clear HC30
            replace H := Option.bind_eq_some_iff.mp H
            obtain ⟨t225, A310, H⟩ := H
            obtain rfl : t205 = t225 := Option.some.inj (A4.out.symm.trans A310)
            replace H : ((value_Not.f t205).bind fun t226 => ((value_And.f a0 a0).bind fun t227 => (if t226 = t227 then ((value_Or.f a0 a1).bind fun t228 => ((value_And.f a0 t228).bind fun t229 => ((value_Or.f a0 a0).bind fun t230 => (chancerylaw17_ValueLogic.j2 kj17 a0 x9_5 x10_17 (t229 == t230))))) else (chancerylaw17_ValueLogic.j2 kj17 a0 x9_5 x10_17 false)))) = some r := H
            have A31 := Aside0.mk A310
            clear A310
            replace H := Option.bind_eq_some_iff.mp H
            obtain ⟨t226, A320, H⟩ := H
            replace H : ((value_And.f a0 a0).bind fun t227 => (if t226 = t227 then ((value_Or.f a0 a1).bind fun t228 => ((value_And.f a0 t228).bind fun t229 => ((value_Or.f a0 a0).bind fun t230 => (chancerylaw17_ValueLogic.j2 kj17 a0 x9_5 x10_17 (t229 == t230))))) else (chancerylaw17_ValueLogic.j2 kj17 a0 x9_5 x10_17 false))) = some r := H
            have A32 := Aside0.mk A320
            clear A320
            replace H := Option.bind_eq_some_iff.mp H
            obtain ⟨t227, A330, H⟩ := H
            replace H : (if t226 = t227 then ((value_Or.f a0 a1).bind fun t228 => ((value_And.f a0 t228).bind fun t229 => ((value_Or.f a0 a0).bind fun t230 => (chancerylaw17_ValueLogic.j2 kj17 a0 x9_5 x10_17 (t229 == t230))))) else (chancerylaw17_ValueLogic.j2 kj17 a0 x9_5 x10_17 false)) = some r := H
            have A33 := Aside0.mk A330
            clear A330
            by_cases c34 : t226 = t227
            · rw [if_pos c34] at H
              have c34b0 : (t226 == t227) = true := beq_iff_eq.mpr c34
              have c34b1 : (t226 != t227) = false := bne_eq_false_iff_eq.mpr c34
              clear c34
              (first | rw [c34b0] | (simp only [i64_w, i32_w]; rw [c34b0]) | skip)
              replace H := Option.bind_eq_some_iff.mp H
              obtain ⟨t228, A350, H⟩ := H
              replace H : ((value_And.f a0 t228).bind fun t229 => ((value_Or.f a0 a0).bind fun t230 => (chancerylaw17_ValueLogic.j2 kj17 a0 x9_5 x10_17 (t229 == t230)))) = some r := H
              have A35 := Aside0.mk A350
              clear A350
              replace H := Option.bind_eq_some_iff.mp H
              obtain ⟨t229, A360, H⟩ := H
              replace H : ((value_Or.f a0 a0).bind fun t230 => (chancerylaw17_ValueLogic.j2 kj17 a0 x9_5 x10_17 (t229 == t230))) = some r := H
              have A36 := Aside0.mk A360
              clear A360
              replace H := Option.bind_eq_some_iff.mp H
              obtain ⟨t230, A370, H⟩ := H
              replace H : (chancerylaw17_ValueLogic.j2 kj17 a0 x9_5 x10_17 (t229 == t230)) = some r := H
              have A37 := Aside0.mk A370
              clear A370
              have H' := Aside0.mk H
              clear H
              go_wp2_with (first | ((with_reducible refine gate_callee (f := 18) rfl ?_); refine goesL_ (some 79) rfl rfl Tryd.func18 (by kernel_rfl) rfl #[.int .u8 a0] rfl (by (try simp only [List.map_toArray, List.map_cons, List.map_nil]); first | done | rfl | (simp only [List.length_drop, List.length_take]; rfl)) ?_; (with_reducible refine (value_Not.calls a0 t205 _ A31.out (by first | exact HG.out | exact VOK.drawn HG.out ⟨⟨_, rfl⟩⟩ | exact VOK.below HG.out (by repeat (first | (with_reducible first | exact HB.out | apply below_alloc | apply pw_below_drewN | apply below_drew1) | exact HB.out)))).mono ?_); rintro e w' ⟨rfl, ⟨nd, rfl⟩⟩; refine ⟨_, rfl, ?_⟩) | ((with_reducible refine gate_callee (f := 18) rfl ?_); refine goesL_ (some 80) rfl rfl Tryd.func18 (by kernel_rfl) rfl #[.int .u8 t205] rfl (by (try simp only [List.map_toArray, List.map_cons, List.map_nil]); first | done | rfl | (simp only [List.length_drop, List.length_take]; rfl)) ?_; (with_reducible refine (value_Not.calls t205 t226 _ A32.out (by first | exact HG.out | exact VOK.drawn HG.out ⟨⟨_, rfl⟩⟩ | exact VOK.below HG.out (by repeat (first | (with_reducible first | exact HB.out | apply below_alloc | apply pw_below_drewN | apply below_drew1) | exact HB.out)))).mono ?_); rintro e w' ⟨rfl, ⟨nd, rfl⟩⟩; refine ⟨_, rfl, ?_⟩) | ((with_reducible refine gate_callee (f := 26) rfl ?_); refine goesL_ (some 83) rfl rfl Tryd.func26 (by kernel_rfl) rfl #[.int .u8 a0, .int .u8 a0] rfl (by (try simp only [List.map_toArray, List.map_cons, List.map_nil]); first | done | rfl | (simp only [List.length_drop, List.length_take]; rfl)) ?_; (with_reducible refine (value_And.calls a0 a0 t227 _ A33.out (by first | exact HG.out | exact VOK.drawn HG.out ⟨⟨_, rfl⟩⟩ | exact VOK.below HG.out (by repeat (first | (with_reducible first | exact HB.out | apply below_alloc | apply pw_below_drewN | apply below_drew1) | exact HB.out)))).mono ?_); rintro e w' ⟨rfl, ⟨nd, rfl⟩⟩; refine ⟨_, rfl, ?_⟩) | (go_at_call 27; (with_reducible refine (value_Or.calls a0 a1 t228 _ A35.out (by first | exact HG.out | exact VOK.drawn HG.out ⟨⟨_, rfl⟩⟩ | exact VOK.below HG.out (by repeat (first | (with_reducible first | exact HB.out | apply below_alloc | apply pw_below_drewN | apply below_drew1) | exact HB.out)))).mono ?_); rintro e w' ⟨rfl, ⟨nd, rfl⟩⟩) | (go_at_call 26; (with_reducible refine (value_And.calls a0 t228 t229 _ A36.out (by first | exact HG.out | exact VOK.drawn HG.out ⟨⟨_, rfl⟩⟩ | exact VOK.below HG.out (by repeat (first | (with_reducible first | exact HB.out | apply below_alloc | apply pw_below_drewN | apply below_drew1) | exact HB.out)))).mono ?_); rintro e w' ⟨rfl, ⟨nd, rfl⟩⟩) | (go_at_call 27; (with_reducible refine (value_Or.calls a0 a0 t230 _ A37.out (by first | exact HG.out | exact VOK.drawn HG.out ⟨⟨_, rfl⟩⟩ | exact VOK.below HG.out (by repeat (first | (with_reducible first | exact HB.out | apply below_alloc | apply pw_below_drewN | apply below_drew1) | exact HB.out)))).mono ?_); rintro e w' ⟨rfl, ⟨nd, rfl⟩⟩))
              go_meet
              case rel => exact ⟨_, ((t229 == t230)), (by first | rfl | (simp; done) | (simp [*]; done)), H', ⟨by have := HJ5.out; have := HJ17.out; first | omega | exact Nat.le_refl _⟩, ⟨by repeat (first | (with_reducible first | exact HB.out | apply below_alloc | apply pw_below_drewN | apply below_drew1) | exact HB.out)⟩⟩
            · rw [if_neg c34] at H
              have c34b0 : (t226 == t227) = false := beq_eq_false_iff_ne.mpr c34
              have c34b1 : (t226 != t227) = true := bne_iff_ne.mpr c34
              (first | rw [c34b0] | (simp only [i64_w, i32_w]; rw [c34b0]) | skip)
              have H' := Aside0.mk H
              clear H
              go_wp2_with (first | ((with_reducible refine gate_callee (f := 18) rfl ?_); refine goesL_ (some 79) rfl rfl Tryd.func18 (by kernel_rfl) rfl #[.int .u8 a0] rfl (by (try simp only [List.map_toArray, List.map_cons, List.map_nil]); first | done | rfl | (simp only [List.length_drop, List.length_take]; rfl)) ?_; (with_reducible refine (value_Not.calls a0 t205 _ A31.out (by first | exact HG.out | exact VOK.drawn HG.out ⟨⟨_, rfl⟩⟩ | exact VOK.below HG.out (by repeat (first | (with_reducible first | exact HB.out | apply below_alloc | apply pw_below_drewN | apply below_drew1) | exact HB.out)))).mono ?_); rintro e w' ⟨rfl, ⟨nd, rfl⟩⟩; refine ⟨_, rfl, ?_⟩) | ((with_reducible refine gate_callee (f := 18) rfl ?_); refine goesL_ (some 80) rfl rfl Tryd.func18 (by kernel_rfl) rfl #[.int .u8 t205] rfl (by (try simp only [List.map_toArray, List.map_cons, List.map_nil]); first | done | rfl | (simp only [List.length_drop, List.length_take]; rfl)) ?_; (with_reducible refine (value_Not.calls t205 t226 _ A32.out (by first | exact HG.out | exact VOK.drawn HG.out ⟨⟨_, rfl⟩⟩ | exact VOK.below HG.out (by repeat (first | (with_reducible first | exact HB.out | apply below_alloc | apply pw_below_drewN | apply below_drew1) | exact HB.out)))).mono ?_); rintro e w' ⟨rfl, ⟨nd, rfl⟩⟩; refine ⟨_, rfl, ?_⟩) | ((with_reducible refine gate_callee (f := 26) rfl ?_); refine goesL_ (some 83) rfl rfl Tryd.func26 (by kernel_rfl) rfl #[.int .u8 a0, .int .u8 a0] rfl (by (try simp only [List.map_toArray, List.map_cons, List.map_nil]); first | done | rfl | (simp only [List.length_drop, List.length_take]; rfl)) ?_; (with_reducible refine (value_And.calls a0 a0 t227 _ A33.out (by first | exact HG.out | exact VOK.drawn HG.out ⟨⟨_, rfl⟩⟩ | exact VOK.below HG.out (by repeat (first | (with_reducible first | exact HB.out | apply below_alloc | apply pw_below_drewN | apply below_drew1) | exact HB.out)))).mono ?_); rintro e w' ⟨rfl, ⟨nd, rfl⟩⟩; refine ⟨_, rfl, ?_⟩))
              go_meet
              case rel => exact ⟨_, (false), (by first | rfl | (simp; done) | (simp [*]; done)), H', ⟨by have := HJ5.out; have := HJ17.out; first | omega | exact Nat.le_refl _⟩, ⟨by repeat (first | (with_reducible first | exact HB.out | apply below_alloc | apply pw_below_drewN | apply below_drew1) | exact HB.out)⟩⟩
          case rest =>
            clear HC30
            try clear c1
            try clear c2
            try clear p2
            try clear c3
            try clear c7
            try clear c9
            try clear c9b0
            try clear c9b1
            try clear c14
            try clear c14b0
            try clear c14b1
            try clear c18
            try clear c21
            try clear c21b0
            try clear c21b1
            try clear c26
            try clear c26b0
            try clear c26b1
            try clear c27
            try clear c34
            try clear c34b0
            try clear c34b1
            try clear p2
            obtain ⟨kq, x11_29, rfl, HA, HJ29, HB⟩ := hcut
            cases kq with
            | zero => exact absurd HA.out (by simp [chancerylaw17_ValueLogic.j2])
            | succ kj29 =>
              have H := HA.out
              clear HA
              simp only [chancerylaw17_ValueLogic.j2] at H
              replace H := Option.bind_eq_some_iff.mp H
              obtain ⟨⟨t231, t232, t233⟩, A380, H⟩ := H
              replace H : ((value_Truth.f kj29 t231 t232 t233).bind fun bt234 => (if x9_5 = true then (if x10_17 = true then (if x11_29 = true then (if bt234.2 = 0 then ((value_And.f a0 a0).bind fun t236 => (if bt234.1 = t236 then ((chancerylaw17_awake.f).bind fun t237 => (some t237)) else (some false))) else (some false)) else (some false)) else (some false)) else (some false))) = some r := H
              have A38 := Aside0.mk A380
              clear A380
              replace H := Option.bind_eq_some_iff.mp H
              obtain ⟨⟨t234, t235⟩, A390, H⟩ := H
              replace H : (if x9_5 = true then (if x10_17 = true then (if x11_29 = true then (if t235 = 0 then ((value_And.f a0 a0).bind fun t236 => (if t234 = t236 then ((chancerylaw17_awake.f).bind fun t237 => (some t237)) else (some false))) else (some false)) else (some false)) else (some false)) else (some false)) = some r := H
              have A39 := Aside0.mk A390
              clear A390
              by_cases c40 : x9_5 = true
              · subst c40
                have H1 : (if x10_17 = true then (if x11_29 = true then (if t235 = 0 then ((value_And.f a0 a0).bind fun t236 => (if t234 = t236 then ((chancerylaw17_awake.f).bind fun t237 => (some t237)) else (some false))) else (some false)) else (some false)) else (some false)) = some r := by rw [if_pos rfl] at H; exact H
                clear H
                have H := H1
                clear H1
                by_cases c41 : x10_17 = true
                · subst c41
                  have H1 : (if x11_29 = true then (if t235 = 0 then ((value_And.f a0 a0).bind fun t236 => (if t234 = t236 then ((chancerylaw17_awake.f).bind fun t237 => (some t237)) else (some false))) else (some false)) else (some false)) = some r := by rw [if_pos rfl] at H; exact H
                  clear H
                  have H := H1
                  clear H1
                  by_cases c42 : x11_29 = true
                  · subst c42
                    have H1 : (if t235 = 0 then ((value_And.f a0 a0).bind fun t236 => (if t234 = t236 then ((chancerylaw17_awake.f).bind fun t237 => (some t237)) else (some false))) else (some false)) = some r := by rw [if_pos rfl] at H; exact H
                    clear H
                    have H := H1
                    clear H1
                    by_cases c43 : t235 = 0
                    · rw [if_pos c43] at H
                      have c43b0 : (t235 == 0) = true := beq_iff_eq.mpr c43
                      have c43b1 : (t235 != 0) = false := bne_eq_false_iff_eq.mpr c43
                      clear c43
                      replace H := Option.bind_eq_some_iff.mp H
                      obtain ⟨t236, A440, H⟩ := H
                      replace H : (if t234 = t236 then ((chancerylaw17_awake.f).bind fun t237 => (some t237)) else (some false)) = some r := H
                      have A44 := Aside0.mk A440
                      clear A440
                      by_cases c45 : t234 = t236
                      · rw [if_pos c45] at H
                        have c45b0 : (t234 == t236) = true := beq_iff_eq.mpr c45
                        have c45b1 : (t234 != t236) = false := bne_eq_false_iff_eq.mpr c45
                        clear c45
                        replace H := Option.bind_eq_some_iff.mp H
                        obtain ⟨t237, A460, H⟩ := H
                        replace H : (some t237) = some r := H
                        have A46 := Aside0.mk A460
                        clear A460
                        obtain rfl := Option.some.inj H
                        go_wp2_with (first | ((with_reducible refine gate_callee (f := 29) rfl ?_); refine goesL_ (some 98) rfl rfl Tryd.func29 (by kernel_rfl) rfl #[.int .u8 a0] rfl (by (try simp only [List.map_toArray, List.map_cons, List.map_nil]); first | done | rfl | (simp only [List.length_drop, List.length_take]; rfl)) ?_; (with_reducible refine (value_Of.calls a0 t231 t232 t233 _ A38.out).mono ?_); rintro e w47 ⟨rfl, hb⟩; refine ⟨_, rfl, ?_⟩; have n0_ := Aside0.mk (below_step (by repeat (first | (with_reducible first | exact HB.out | apply below_alloc | apply pw_below_drewN | apply below_drew1) | exact HB.out)) hb); clear HB; have HB := n0_; clear n0_; (try clear hb); (try clear hb2); (try clear hk); (try clear hi)) | ((with_reducible refine gate_callee (f := 28) rfl ?_); refine goesL_ (some 99) rfl rfl Tryd.func28 (by kernel_rfl) rfl #[.agg #[.int .u8 t231, .int .i64 t232, .string t233]] rfl (by (try simp only [List.map_toArray, List.map_cons, List.map_nil]); first | done | rfl | (simp only [List.length_drop, List.length_take]; rfl)) ?_; (with_reducible refine (value_Truth.calls kj29 t231 t232 t233 t234 t235 _ A39.out).mono ?_); rintro e w48 ⟨rfl, hb⟩; refine ⟨_, rfl, ?_⟩; have n0_ := Aside0.mk (below_step (by repeat (first | (with_reducible first | exact HB.out | apply below_alloc | apply pw_below_drewN | apply below_drew1) | exact HB.out)) hb); clear HB; have HB := n0_; clear n0_; (try clear hb); (try clear hb2); (try clear hk); (try clear hi)) | (go_at_call 26; (with_reducible refine (value_And.calls a0 a0 t236 _ A44.out (by first | exact HG.out | exact VOK.drawn HG.out ⟨⟨_, rfl⟩⟩ | exact VOK.below HG.out (by repeat (first | (with_reducible first | exact HB.out | apply below_alloc | apply pw_below_drewN | apply below_drew1) | exact HB.out)))).mono ?_); rintro e w' ⟨rfl, ⟨nd, rfl⟩⟩) | (go_at_call 15; (with_reducible refine (chancerylaw17_awake.calls  t237 _ A46.out (by first | exact HG.out | exact VOK.drawn HG.out ⟨⟨_, rfl⟩⟩ | exact VOK.below HG.out (by repeat (first | (with_reducible first | exact HB.out | apply below_alloc | apply pw_below_drewN | apply below_drew1) | exact HB.out)))).mono ?_); rintro e w49 ⟨rfl, hb⟩; have n0_ := Aside0.mk (below_step (by repeat (first | (with_reducible first | exact HB.out | apply below_alloc | apply pw_below_drewN | apply below_drew1) | exact HB.out)) hb); clear HB; have HB := n0_; clear n0_; (try clear hb); (try clear hb2); (try clear hk); (try clear hi)))
                        go_ret
                        exact ⟨by first | rfl | (simp [errW_none, errW_some] <;> rfl) | (simp [*, errW_none, errW_some] <;> rfl), by repeat (first | (with_reducible first | exact HB.out | apply below_alloc | apply pw_below_drewN | apply below_drew1) | exact HB.out)⟩
                      · rw [if_neg c45] at H
                        have c45b0 : (t234 == t236) = false := beq_eq_false_iff_ne.mpr c45
                        have c45b1 : (t234 != t236) = true := bne_iff_ne.mpr c45
                        obtain rfl := Option.some.inj H
                        go_wp2_with (first | ((with_reducible refine gate_callee (f := 29) rfl ?_); refine goesL_ (some 98) rfl rfl Tryd.func29 (by kernel_rfl) rfl #[.int .u8 a0] rfl (by (try simp only [List.map_toArray, List.map_cons, List.map_nil]); first | done | rfl | (simp only [List.length_drop, List.length_take]; rfl)) ?_; (with_reducible refine (value_Of.calls a0 t231 t232 t233 _ A38.out).mono ?_); rintro e w50 ⟨rfl, hb⟩; refine ⟨_, rfl, ?_⟩; have n0_ := Aside0.mk (below_step (by repeat (first | (with_reducible first | exact HB.out | apply below_alloc | apply pw_below_drewN | apply below_drew1) | exact HB.out)) hb); clear HB; have HB := n0_; clear n0_; (try clear hb); (try clear hb2); (try clear hk); (try clear hi)) | ((with_reducible refine gate_callee (f := 28) rfl ?_); refine goesL_ (some 99) rfl rfl Tryd.func28 (by kernel_rfl) rfl #[.agg #[.int .u8 t231, .int .i64 t232, .string t233]] rfl (by (try simp only [List.map_toArray, List.map_cons, List.map_nil]); first | done | rfl | (simp only [List.length_drop, List.length_take]; rfl)) ?_; (with_reducible refine (value_Truth.calls kj29 t231 t232 t233 t234 t235 _ A39.out).mono ?_); rintro e w51 ⟨rfl, hb⟩; refine ⟨_, rfl, ?_⟩; have n0_ := Aside0.mk (below_step (by repeat (first | (with_reducible first | exact HB.out | apply below_alloc | apply pw_below_drewN | apply below_drew1) | exact HB.out)) hb); clear HB; have HB := n0_; clear n0_; (try clear hb); (try clear hb2); (try clear hk); (try clear hi)) | (go_at_call 26; (with_reducible refine (value_And.calls a0 a0 t236 _ A44.out (by first | exact HG.out | exact VOK.drawn HG.out ⟨⟨_, rfl⟩⟩ | exact VOK.below HG.out (by repeat (first | (with_reducible first | exact HB.out | apply below_alloc | apply pw_below_drewN | apply below_drew1) | exact HB.out)))).mono ?_); rintro e w' ⟨rfl, ⟨nd, rfl⟩⟩))
                        go_ret
                        exact ⟨by first | rfl | (simp [errW_none, errW_some] <;> rfl) | (simp [*, errW_none, errW_some] <;> rfl), by repeat (first | (with_reducible first | exact HB.out | apply below_alloc | apply pw_below_drewN | apply below_drew1) | exact HB.out)⟩
                    · rw [if_neg c43] at H
                      have c43b0 : (t235 == 0) = false := beq_eq_false_iff_ne.mpr c43
                      have c43b1 : (t235 != 0) = true := bne_iff_ne.mpr c43
                      obtain rfl := Option.some.inj H
                      go_wp2_with (first | ((with_reducible refine gate_callee (f := 29) rfl ?_); refine goesL_ (some 98) rfl rfl Tryd.func29 (by kernel_rfl) rfl #[.int .u8 a0] rfl (by (try simp only [List.map_toArray, List.map_cons, List.map_nil]); first | done | rfl | (simp only [List.length_drop, List.length_take]; rfl)) ?_; (with_reducible refine (value_Of.calls a0 t231 t232 t233 _ A38.out).mono ?_); rintro e w52 ⟨rfl, hb⟩; refine ⟨_, rfl, ?_⟩; have n0_ := Aside0.mk (below_step (by repeat (first | (with_reducible first | exact HB.out | apply below_alloc | apply pw_below_drewN | apply below_drew1) | exact HB.out)) hb); clear HB; have HB := n0_; clear n0_; (try clear hb); (try clear hb2); (try clear hk); (try clear hi)) | ((with_reducible refine gate_callee (f := 28) rfl ?_); refine goesL_ (some 99) rfl rfl Tryd.func28 (by kernel_rfl) rfl #[.agg #[.int .u8 t231, .int .i64 t232, .string t233]] rfl (by (try simp only [List.map_toArray, List.map_cons, List.map_nil]); first | done | rfl | (simp only [List.length_drop, List.length_take]; rfl)) ?_; (with_reducible refine (value_Truth.calls kj29 t231 t232 t233 t234 t235 _ A39.out).mono ?_); rintro e w53 ⟨rfl, hb⟩; refine ⟨_, rfl, ?_⟩; have n0_ := Aside0.mk (below_step (by repeat (first | (with_reducible first | exact HB.out | apply below_alloc | apply pw_below_drewN | apply below_drew1) | exact HB.out)) hb); clear HB; have HB := n0_; clear n0_; (try clear hb); (try clear hb2); (try clear hk); (try clear hi)))
                      go_ret
                      exact ⟨by first | rfl | (simp [errW_none, errW_some] <;> rfl) | (simp [*, errW_none, errW_some] <;> rfl), by repeat (first | (with_reducible first | exact HB.out | apply below_alloc | apply pw_below_drewN | apply below_drew1) | exact HB.out)⟩
                  · replace c42 := Bool.eq_false_iff.mpr c42
                    subst c42
                    have H1 : (some false) = some r := by rw [if_neg (show ¬ (false = true) by decide)] at H; exact H
                    clear H
                    have H := H1
                    clear H1
                    obtain rfl := Option.some.inj H
                    go_wp2_with (first | ((with_reducible refine gate_callee (f := 29) rfl ?_); refine goesL_ (some 98) rfl rfl Tryd.func29 (by kernel_rfl) rfl #[.int .u8 a0] rfl (by (try simp only [List.map_toArray, List.map_cons, List.map_nil]); first | done | rfl | (simp only [List.length_drop, List.length_take]; rfl)) ?_; (with_reducible refine (value_Of.calls a0 t231 t232 t233 _ A38.out).mono ?_); rintro e w54 ⟨rfl, hb⟩; refine ⟨_, rfl, ?_⟩; have n0_ := Aside0.mk (below_step (by repeat (first | (with_reducible first | exact HB.out | apply below_alloc | apply pw_below_drewN | apply below_drew1) | exact HB.out)) hb); clear HB; have HB := n0_; clear n0_; (try clear hb); (try clear hb2); (try clear hk); (try clear hi)) | ((with_reducible refine gate_callee (f := 28) rfl ?_); refine goesL_ (some 99) rfl rfl Tryd.func28 (by kernel_rfl) rfl #[.agg #[.int .u8 t231, .int .i64 t232, .string t233]] rfl (by (try simp only [List.map_toArray, List.map_cons, List.map_nil]); first | done | rfl | (simp only [List.length_drop, List.length_take]; rfl)) ?_; (with_reducible refine (value_Truth.calls kj29 t231 t232 t233 t234 t235 _ A39.out).mono ?_); rintro e w55 ⟨rfl, hb⟩; refine ⟨_, rfl, ?_⟩; have n0_ := Aside0.mk (below_step (by repeat (first | (with_reducible first | exact HB.out | apply below_alloc | apply pw_below_drewN | apply below_drew1) | exact HB.out)) hb); clear HB; have HB := n0_; clear n0_; (try clear hb); (try clear hb2); (try clear hk); (try clear hi)))
                    go_ret
                    exact ⟨by first | rfl | (simp [errW_none, errW_some] <;> rfl) | (simp [*, errW_none, errW_some] <;> rfl), by repeat (first | (with_reducible first | exact HB.out | apply below_alloc | apply pw_below_drewN | apply below_drew1) | exact HB.out)⟩
                · replace c41 := Bool.eq_false_iff.mpr c41
                  subst c41
                  have H1 : (some false) = some r := by rw [if_neg (show ¬ (false = true) by decide)] at H; exact H
                  clear H
                  have H := H1
                  clear H1
                  obtain rfl := Option.some.inj H
                  go_wp2_with (first | ((with_reducible refine gate_callee (f := 29) rfl ?_); refine goesL_ (some 98) rfl rfl Tryd.func29 (by kernel_rfl) rfl #[.int .u8 a0] rfl (by (try simp only [List.map_toArray, List.map_cons, List.map_nil]); first | done | rfl | (simp only [List.length_drop, List.length_take]; rfl)) ?_; (with_reducible refine (value_Of.calls a0 t231 t232 t233 _ A38.out).mono ?_); rintro e w56 ⟨rfl, hb⟩; refine ⟨_, rfl, ?_⟩; have n0_ := Aside0.mk (below_step (by repeat (first | (with_reducible first | exact HB.out | apply below_alloc | apply pw_below_drewN | apply below_drew1) | exact HB.out)) hb); clear HB; have HB := n0_; clear n0_; (try clear hb); (try clear hb2); (try clear hk); (try clear hi)) | ((with_reducible refine gate_callee (f := 28) rfl ?_); refine goesL_ (some 99) rfl rfl Tryd.func28 (by kernel_rfl) rfl #[.agg #[.int .u8 t231, .int .i64 t232, .string t233]] rfl (by (try simp only [List.map_toArray, List.map_cons, List.map_nil]); first | done | rfl | (simp only [List.length_drop, List.length_take]; rfl)) ?_; (with_reducible refine (value_Truth.calls kj29 t231 t232 t233 t234 t235 _ A39.out).mono ?_); rintro e w57 ⟨rfl, hb⟩; refine ⟨_, rfl, ?_⟩; have n0_ := Aside0.mk (below_step (by repeat (first | (with_reducible first | exact HB.out | apply below_alloc | apply pw_below_drewN | apply below_drew1) | exact HB.out)) hb); clear HB; have HB := n0_; clear n0_; (try clear hb); (try clear hb2); (try clear hk); (try clear hi)))
                  go_ret
                  exact ⟨by first | rfl | (simp [errW_none, errW_some] <;> rfl) | (simp [*, errW_none, errW_some] <;> rfl), by repeat (first | (with_reducible first | exact HB.out | apply below_alloc | apply pw_below_drewN | apply below_drew1) | exact HB.out)⟩
              · replace c40 := Bool.eq_false_iff.mpr c40
                subst c40
                have H1 : (some false) = some r := by rw [if_neg (show ¬ (false = true) by decide)] at H; exact H
                clear H
                have H := H1
                clear H1
                obtain rfl := Option.some.inj H
                go_wp2_with (first | ((with_reducible refine gate_callee (f := 29) rfl ?_); refine goesL_ (some 98) rfl rfl Tryd.func29 (by kernel_rfl) rfl #[.int .u8 a0] rfl (by (try simp only [List.map_toArray, List.map_cons, List.map_nil]); first | done | rfl | (simp only [List.length_drop, List.length_take]; rfl)) ?_; (with_reducible refine (value_Of.calls a0 t231 t232 t233 _ A38.out).mono ?_); rintro e w58 ⟨rfl, hb⟩; refine ⟨_, rfl, ?_⟩; have n0_ := Aside0.mk (below_step (by repeat (first | (with_reducible first | exact HB.out | apply below_alloc | apply pw_below_drewN | apply below_drew1) | exact HB.out)) hb); clear HB; have HB := n0_; clear n0_; (try clear hb); (try clear hb2); (try clear hk); (try clear hi)) | ((with_reducible refine gate_callee (f := 28) rfl ?_); refine goesL_ (some 99) rfl rfl Tryd.func28 (by kernel_rfl) rfl #[.agg #[.int .u8 t231, .int .i64 t232, .string t233]] rfl (by (try simp only [List.map_toArray, List.map_cons, List.map_nil]); first | done | rfl | (simp only [List.length_drop, List.length_take]; rfl)) ?_; (with_reducible refine (value_Truth.calls kj29 t231 t232 t233 t234 t235 _ A39.out).mono ?_); rintro e w59 ⟨rfl, hb⟩; refine ⟨_, rfl, ?_⟩; have n0_ := Aside0.mk (below_step (by repeat (first | (with_reducible first | exact HB.out | apply below_alloc | apply pw_below_drewN | apply below_drew1) | exact HB.out)) hb); clear HB; have HB := n0_; clear n0_; (try clear hb); (try clear hb2); (try clear hk); (try clear hi)))
                go_ret
                exact ⟨by first | rfl | (simp [errW_none, errW_some] <;> rfl) | (simp [*, errW_none, errW_some] <;> rfl), by repeat (first | (with_reducible first | exact HB.out | apply below_alloc | apply pw_below_drewN | apply below_drew1) | exact HB.out)⟩

/-- THE ONE PURE STATEMENT of chancerylaw17_ValueLogic: yours. -/
def chancerylaw17_ValueLogic.Pure : Prop := ∀ (a0 : Int) (a1 : Int) (a2 : Int), (Lit.int .u8 a0).wf = true → (Lit.int .u8 a1).wf = true → (Lit.int .u8 a2).wf = true → ∃ k, chancerylaw17_ValueLogic.f k a0 a1 a2 = some true
theorem chancerylaw17_ValueLogic.walk (P : chancerylaw17_ValueLogic.Pure) (a0 : Int) (a1 : Int) (a2 : Int) (w : World) (w0 : (Lit.int .u8 a0).wf = true) (w1 : (Lit.int .u8 a1).wf = true) (w2 : (Lit.int .u8 a2).wf = true) (hg : VOK w) :
    Calls Tryd.prog 7 #[.int .u8 a0, .int .u8 a1, .int .u8 a2] w fun e w' => e = .returned (.bool true) ∧ Below w.heap.size w w' := by
  obtain ⟨k, h⟩ := P a0 a1 a2 w0 w1 w2
  refine (chancerylaw17_ValueLogic.calls k a0 a1 a2 true w h hg).mono ?_
  rintro e w' ⟨rfl, hd⟩
  exact ⟨rfl, hd⟩

end Go.Proofs.YtbodlnoipkommaaDoor.Q

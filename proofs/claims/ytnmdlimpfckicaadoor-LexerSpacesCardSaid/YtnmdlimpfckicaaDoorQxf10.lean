-- By a program of this session (wip/printx.py) out of the translation. Not trusted: Lean checks it.
import Derived.Test.YtnmdlimpfckicaaDoorU
import Derived.Test.YtnmdlimpfckicaaDoorQx0
import Derived.Test.YtnmdlimpfckicaaDoorQxf19
import Derived.Test.YtnmdlimpfckicaaDoorR
import Derived.Test.YtnmdlimpfckicaaDoorS
namespace Go.Proofs.YtnmdlimpfckicaaDoor.Q
open Go.Proofs.YtnmdlimpfckicaaDoor.S
open Go.Proofs.YtnmdlimpfckicaaDoor.R Go.Proofs.YtnmdlimpfckicaaDoor.S
open Go.RowKit Go.Proofs.YtnmdlimpfckicaaDoorW.PrintWords Go.Proofs.YtnmdlimpfckicaaDoorW.PrintLast Go.Proofs.YtnmdlimpfckicaaDoorW.PrintMore
attribute [local go_sem] Go.Proofs.YtnmdlimpfckicaaDoor.U.cell_twice
attribute [local go_sem] max2_int min2_int max_two min_two max_three min_three max_four min_four   -- for this text's walks alone
set_option linter.unusedVariables false
set_option linter.unusedSimpArgs false

/-! ### lexer_Name: function 10 -/
def lexer_Name.f (a0 : ByteArray) : Option (Bool) := if a0.toList = ([] : List UInt8) then (some false) else (if (a0.size : Int) ≤ 24 then (if 0 < (a0.size : Int) then ((lexer_letter.f (wrap32 (bt a0 0))).bind fun t121 => (if t121 = true then ((run_part.f a0).bind fun t122 => (if t122 = (a0.size : Int) then ((lexer_Reserved.f a0).bind fun t123 => (some (!t123))) else (some false))) else (some false))) else (none)) else (some false))
set_option maxHeartbeats 8000000 in
set_option maxRecDepth 100000 in
theorem lexer_Name.calls (a0 : ByteArray) (r : Bool) (w : World) (h : lexer_Name.f a0 = some r) (hg : GlobOK w) :
    Calls Tryd.prog 10 #[.string a0] w fun e w' => e = .returned (.bool r) ∧ Drawn0 w w' := by
  have HG := Aside0.mk hg
  clear hg
  have H : (if a0.toList = ([] : List UInt8) then (some false) else (if (a0.size : Int) ≤ 24 then (if 0 < (a0.size : Int) then ((lexer_letter.f (wrap32 (bt a0 0))).bind fun t121 => (if t121 = true then ((run_part.f a0).bind fun t122 => (if t122 = (a0.size : Int) then ((lexer_Reserved.f a0).bind fun t123 => (some (!t123))) else (some false))) else (some false))) else (none)) else (some false))) = some r := h
  clear h
  by_cases c2 : a0.toList = ([] : List UInt8)
  · rw [if_pos c2] at H
    have c2b0 : (a0.toList == ([] : List UInt8)) = true := beq_iff_eq.mpr c2
    have c2b1 : (a0.toList != ([] : List UInt8)) = false := bne_eq_false_iff_eq.mpr c2
    clear c2
    obtain rfl := Option.some.inj H
    go_enter Tryd.func10, Tryd.ntmps10
    go_wp2
    go_ret
    exact ⟨by first | rfl | (simp; done) | (simp [*]; done), by repeat (first | exact Drawn0.refl _ | apply Drawn0.step)⟩
  · rw [if_neg c2] at H
    have c2b0 : (a0.toList == ([] : List UInt8)) = false := beq_eq_false_iff_ne.mpr c2
    have c2b1 : (a0.toList != ([] : List UInt8)) = true := bne_iff_ne.mpr c2
    by_cases c3 : (a0.size : Int) ≤ 24
    · rw [if_pos c3] at H
      have c3b0 : decide ((a0.size : Int) ≤ 24) = true := decide_eq_true c3
      have c3b1 : decide (a0.size ≤ 24) = true := decide_eq_true (by omega)
      clear c3
      by_cases c4 : 0 < (a0.size : Int)
      · rw [if_pos c4] at H
        have c4b0 : decide (0 < (a0.size : Int)) = true := decide_eq_true c4
        have c4b1 : decide (0 < a0.size) = true := decide_eq_true (by omega)
        clear c4
        replace H := Option.bind_eq_some_iff.mp H
        obtain ⟨t121, A60, H⟩ := H
        replace H : (if t121 = true then ((run_part.f a0).bind fun t122 => (if t122 = (a0.size : Int) then ((lexer_Reserved.f a0).bind fun t123 => (some (!t123))) else (some false))) else (some false)) = some r := H
        have A6 := Aside0.mk A60
        clear A60
        by_cases c7 : t121 = true
        · subst c7
          have H1 : ((run_part.f a0).bind fun t122 => (if t122 = (a0.size : Int) then ((lexer_Reserved.f a0).bind fun t123 => (some (!t123))) else (some false))) = some r := by rw [if_pos rfl] at H; exact H
          clear H
          have H := H1
          clear H1
          replace H := Option.bind_eq_some_iff.mp H
          obtain ⟨t122, A80, H⟩ := H
          replace H : (if t122 = (a0.size : Int) then ((lexer_Reserved.f a0).bind fun t123 => (some (!t123))) else (some false)) = some r := H
          have A8 := Aside0.mk A80
          clear A80
          by_cases c9 : t122 = (a0.size : Int)
          · rw [if_pos c9] at H
            have c9b0 : (t122 == (a0.size : Int)) = true := beq_iff_eq.mpr c9
            have c9b1 : (t122 != (a0.size : Int)) = false := bne_eq_false_iff_eq.mpr c9
            clear c9
            replace H := Option.bind_eq_some_iff.mp H
            obtain ⟨t123, A100, H⟩ := H
            replace H : (some (!t123)) = some r := H
            have A10 := Aside0.mk A100
            clear A100
            obtain rfl := Option.some.inj H
            have p5 : 0 ≤ (0 : Int) := (by omega)
            have q5 : 0 < a0.size := (by have : (0 : Int) < (a0.size : Int) := of_decide_eq_true (by first | (with_reducible assumption) | assumption); omega)
            have hx5 : ∀ h : 0 < a0.size, ((a0[0]'h).toNat : Int) = bt a0 0 := bt_at a0 0
            clear p5
            have qi5 : (0 < (a0.size : Int)) = True := eq_true (of_decide_eq_true (by first | (with_reducible assumption) | assumption))
            replace q5 := eq_true q5
            go_enter Tryd.func10, Tryd.ntmps10
            go_wp2_with (first | (go_at_call 19; (with_reducible refine (lexer_letter.calls (wrap32 (bt a0 0)) true _ A6.out).mono ?_); rintro e w' ⟨rfl, ⟨nd, rfl⟩⟩) | (go_at_call 13; (with_reducible refine (run_part.calls a0 t122 _ A8.out).mono ?_); rintro e w' ⟨rfl, ⟨nd, rfl⟩⟩) | (go_at_call 11; (with_reducible refine (lexer_Reserved.calls a0 t123 _ A10.out (by first | exact HG.out | exact GlobOK.drawn HG.out ⟨⟨_, rfl⟩⟩ | exact GlobOK.below HG.out (by repeat (first | (with_reducible first | exact HB.out | apply below_alloc | apply pw_below_drewN | apply below_drew1) | exact HB.out)))).mono ?_); rintro e w' ⟨rfl, ⟨nd, rfl⟩⟩))
            go_ret
            exact ⟨by first | rfl | (simp; done) | (simp [*]; done), by repeat (first | exact Drawn0.refl _ | apply Drawn0.step)⟩
          · rw [if_neg c9] at H
            have c9b0 : (t122 == (a0.size : Int)) = false := beq_eq_false_iff_ne.mpr c9
            have c9b1 : (t122 != (a0.size : Int)) = true := bne_iff_ne.mpr c9
            obtain rfl := Option.some.inj H
            have p5 : 0 ≤ (0 : Int) := (by omega)
            have q5 : 0 < a0.size := (by have : (0 : Int) < (a0.size : Int) := of_decide_eq_true (by first | (with_reducible assumption) | assumption); omega)
            have hx5 : ∀ h : 0 < a0.size, ((a0[0]'h).toNat : Int) = bt a0 0 := bt_at a0 0
            clear p5
            have qi5 : (0 < (a0.size : Int)) = True := eq_true (of_decide_eq_true (by first | (with_reducible assumption) | assumption))
            replace q5 := eq_true q5
            go_enter Tryd.func10, Tryd.ntmps10
            go_wp2_with (first | (go_at_call 19; (with_reducible refine (lexer_letter.calls (wrap32 (bt a0 0)) true _ A6.out).mono ?_); rintro e w' ⟨rfl, ⟨nd, rfl⟩⟩) | (go_at_call 13; (with_reducible refine (run_part.calls a0 t122 _ A8.out).mono ?_); rintro e w' ⟨rfl, ⟨nd, rfl⟩⟩))
            go_ret
            exact ⟨by first | rfl | (simp; done) | (simp [*]; done), by repeat (first | exact Drawn0.refl _ | apply Drawn0.step)⟩
        · replace c7 := Bool.eq_false_iff.mpr c7
          subst c7
          have H1 : (some false) = some r := by rw [if_neg (show ¬ (false = true) by decide)] at H; exact H
          clear H
          have H := H1
          clear H1
          obtain rfl := Option.some.inj H
          have p5 : 0 ≤ (0 : Int) := (by omega)
          have q5 : 0 < a0.size := (by have : (0 : Int) < (a0.size : Int) := of_decide_eq_true (by first | (with_reducible assumption) | assumption); omega)
          have hx5 : ∀ h : 0 < a0.size, ((a0[0]'h).toNat : Int) = bt a0 0 := bt_at a0 0
          clear p5
          have qi5 : (0 < (a0.size : Int)) = True := eq_true (of_decide_eq_true (by first | (with_reducible assumption) | assumption))
          replace q5 := eq_true q5
          go_enter Tryd.func10, Tryd.ntmps10
          go_wp2_with (first | (go_at_call 19; (with_reducible refine (lexer_letter.calls (wrap32 (bt a0 0)) false _ A6.out).mono ?_); rintro e w' ⟨rfl, ⟨nd, rfl⟩⟩))
          go_ret
          exact ⟨by first | rfl | (simp; done) | (simp [*]; done), by repeat (first | exact Drawn0.refl _ | apply Drawn0.step)⟩
      · rw [if_neg c4] at H
        exact absurd H (by simp)
    · rw [if_neg c3] at H
      have c3b0 : decide ((a0.size : Int) ≤ 24) = false := decide_eq_false c3
      have c3b1 : decide (a0.size ≤ 24) = false := decide_eq_false (by omega)
      clear c3
      obtain rfl := Option.some.inj H
      go_enter Tryd.func10, Tryd.ntmps10
      go_wp2
      go_ret
      exact ⟨by first | rfl | (simp; done) | (simp [*]; done), by repeat (first | exact Drawn0.refl _ | apply Drawn0.step)⟩

end Go.Proofs.YtnmdlimpfckicaaDoor.Q

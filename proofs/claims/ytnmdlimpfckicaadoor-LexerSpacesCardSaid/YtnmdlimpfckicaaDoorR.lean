/- How many bytes at the beginning of a text are of a kind: lexer.run at the three functions that it is handed. -/
import Derived.Test.YtnmdlimpfckicaaDoorQxf14
import Derived.Test.YtnmdlimpfckicaaDoorQxf20
import Derived.Test.YtnmdlimpfckicaaDoorQxf21
import Derived.Outline
import Derived.Lib.Hide
namespace Go.Proofs.YtnmdlimpfckicaaDoor.R
open Go.RowKit Go.Proofs.YtnmdlimpfckicaaDoor.Q Go.Proofs.YtnmdlimpfckicaaDoorW.PrintWords Go.Proofs.YtnmdlimpfckicaaDoorW.PrintLast Go.Proofs.YtnmdlimpfckicaaDoorW.PrintMore

/-- The length of the head of a text whose bytes are of a kind. -/
def headOf (p : Int → Bool) : List UInt8 → Nat
  | [] => 0
  | c :: l => if p (c.toNat : Int) then headOf p l + 1 else 0
theorem headOf_le (p : Int → Bool) (l : List UInt8) : headOf p l ≤ l.length := by
  induction l with
  | nil => exact Nat.le_refl _
  | cons c l ih => unfold headOf; split <;> simp; omega
theorem headOf_step (p : Int → Bool) (l : List UInt8) (i : Nat) (h : i < l.length) : headOf p (l.drop i) = if p (l[i].toNat : Int) then headOf p (l.drop (i + 1)) + 1 else 0 := by
  rw [List.drop_eq_getElem_cons h]; rfl
theorem ret_i64 {a b : Int} (h : a = b) : Ending.returned (.int .i64 a) = .returned (.int .i64 b) := by rw [h]

def blankB (c : Int) : Bool := c == 32 || c == 9 || c == 10 || c == 13
def digitB (c : Int) : Bool := decide (48 ≤ c) && decide (c ≤ 57)
def letterB (c : Int) : Bool := c == 95 || (decide (97 ≤ c) && decide (c ≤ 122))
def partB (c : Int) : Bool := letterB c || digitB c
theorem blank_f (c : Int) : lexer_blank.f c = some (blankB c) := by
  unfold lexer_blank.f blankB
  by_cases h1 : c = 32 <;> by_cases h2 : c = 9 <;> by_cases h3 : c = 10 <;> by_cases h4 : c = 13 <;> simp [h1, h2, h3, h4]
theorem digit_f (c : Int) : lexer_digit.f c = some (digitB c) := by
  unfold lexer_digit.f digitB
  by_cases h1 : c ≥ 48
  · rw [if_pos h1]; simp [show (48 : Int) ≤ c from h1]
  · rw [if_neg h1]; simp [show ¬ (48 : Int) ≤ c from h1]
theorem letter_f (c : Int) : lexer_letter.f c = some (letterB c) := by
  unfold lexer_letter.f letterB
  by_cases h0 : c = 95
  · simp [h0]
  · rw [if_neg h0]
    by_cases h1 : c ≥ 97
    · rw [if_pos h1]; simp [h0, show (97 : Int) ≤ c from h1]
    · rw [if_neg h1]; simp [h0, show ¬ (97 : Int) ≤ c from h1]
theorem part_f (c : Int) : lexer_part.f c = some (partB c) := by
  unfold lexer_part.f partB
  rw [letter_f, digit_f]
  cases letterB c <;> simp

def run_blank.f (a0 : ByteArray) : Option Int := if a0.size ≤ 9223372036854775807 then some (headOf blankB a0.data.toList : Int) else none
set_option maxHeartbeats 1000000 in
theorem run_blank.calls (a0 : ByteArray) (r : Int) (w : World) (h : run_blank.f a0 = some r) :
    Calls Tryd.prog 13 #[.string a0, .func (.func 14) #[] #[]] w fun e w' => e = .returned (.int .i64 r) ∧ Drawn0 w w' := by
  unfold run_blank.f at h
  by_cases hs : a0.size ≤ 9223372036854775807
  case neg => rw [if_neg hs] at h; cases h
  rw [if_pos hs] at h
  have hr := Option.some.inj h
  clear h
  have HR := Lib.hid hr
  clear hr
  go_enter Tryd.func13, Tryd.ntmps13
  go_wp2
  go_loopw [8] (fun v wr => ∃ k : Nat, v = .int .i64 k ∧ k ≤ a0.size ∧ Aside0 (headOf blankB a0.data.toList = k + headOf blankB (a0.data.toList.drop k)) ∧ Drawn0 w wr) (fun v _ => a0.size - (intOf v).toNat)
  case atStart => exact ⟨0, rfl, Nat.zero_le _, ⟨by simp⟩, Drawn0.refl _⟩
  case round =>
    obtain ⟨k, rfl, hk, HA, ⟨n, rfl⟩⟩ := hrel
    by_cases hlt : k < a0.size
    · have hst := headOf_step blankB a0.data.toList k (by simpa using hlt)
      have hget : (a0.data.toList[k]'(by simpa using hlt)) = a0[k] := rfl
      rw [hget] at hst
      obtain ⟨c, hc⟩ : ∃ c, c = a0[k] := ⟨_, rfl⟩
      rw [← hc] at hst
      have HST := Aside0.mk hst
      have hb : c.toNat < 256 := c.toNat_lt
      have hw : wrap32 (a0[k].toNat : Int) = (c.toNat : Int) := by rw [← hc]; unfold wrap32; omega
      have HW := Aside0.mk hw
      clear hst hget hc hw hb
      cases hp : blankB (c.toNat : Int) with
      | true =>
        have HP := Aside0.mk hp
        clear hp
        go_wp2_with (go_at_call 14; rw [HW.out]; refine (lexer_blank.calls (c.toNat : Int) true _ (by rw [blank_f, HP.out])).mono ?_; rintro e w' ⟨rfl, ⟨n2, rfl⟩⟩)
        go_roundw
        case rel =>
          refine ⟨k + 1, by go_num, by omega, ⟨?_⟩, by repeat (first | exact Drawn0.refl _ | apply Drawn0.step)⟩
          have h1 := HST.out
          have h2 := HA.out
          rw [HP.out, if_pos rfl] at h1
          omega
        case measure => simp [intOf]; omega
      | false =>
        have HP := Aside0.mk hp
        clear hp
        go_wp2_with (go_at_call 14; rw [HW.out]; refine (lexer_blank.calls (c.toNat : Int) false _ (by rw [blank_f, HP.out])).mono ?_; rintro e w' ⟨rfl, ⟨n2, rfl⟩⟩)
        go_ret
        refine ⟨ret_i64 ?_, by repeat (first | exact Drawn0.refl _ | apply Drawn0.step)⟩
        have h1 := HST.out
        have h2 := HA.out
        rw [HP.out, if_neg (by decide)] at h1
        have := HR.out
        omega
    · go_wp2
      go_ret
      refine ⟨ret_i64 ?_, by repeat (first | exact Drawn0.refl _ | apply Drawn0.step)⟩
      have e : k = a0.size := by omega
      subst e
      have h2 := HA.out
      rw [List.drop_eq_nil_of_le (by simp)] at h2
      have := HR.out
      simp [headOf] at h2
      omega

def run_part.f (a0 : ByteArray) : Option Int := if a0.size ≤ 9223372036854775807 then some (headOf partB a0.data.toList : Int) else none
set_option maxHeartbeats 1000000 in
theorem run_part.calls (a0 : ByteArray) (r : Int) (w : World) (h : run_part.f a0 = some r) :
    Calls Tryd.prog 13 #[.string a0, .func (.func 20) #[] #[]] w fun e w' => e = .returned (.int .i64 r) ∧ Drawn0 w w' := by
  unfold run_part.f at h
  by_cases hs : a0.size ≤ 9223372036854775807
  case neg => rw [if_neg hs] at h; cases h
  rw [if_pos hs] at h
  have hr := Option.some.inj h
  clear h
  have HR := Lib.hid hr
  clear hr
  go_enter Tryd.func13, Tryd.ntmps13
  go_wp2
  go_loopw [8] (fun v wr => ∃ k : Nat, v = .int .i64 k ∧ k ≤ a0.size ∧ Aside0 (headOf partB a0.data.toList = k + headOf partB (a0.data.toList.drop k)) ∧ Drawn0 w wr) (fun v _ => a0.size - (intOf v).toNat)
  case atStart => exact ⟨0, rfl, Nat.zero_le _, ⟨by simp⟩, Drawn0.refl _⟩
  case round =>
    obtain ⟨k, rfl, hk, HA, ⟨n, rfl⟩⟩ := hrel
    by_cases hlt : k < a0.size
    · have hst := headOf_step partB a0.data.toList k (by simpa using hlt)
      have hget : (a0.data.toList[k]'(by simpa using hlt)) = a0[k] := rfl
      rw [hget] at hst
      obtain ⟨c, hc⟩ : ∃ c, c = a0[k] := ⟨_, rfl⟩
      rw [← hc] at hst
      have HST := Aside0.mk hst
      have hb : c.toNat < 256 := c.toNat_lt
      have hw : wrap32 (a0[k].toNat : Int) = (c.toNat : Int) := by rw [← hc]; unfold wrap32; omega
      have HW := Aside0.mk hw
      clear hst hget hc hw hb
      cases hp : partB (c.toNat : Int) with
      | true =>
        have HP := Aside0.mk hp
        clear hp
        go_wp2_with (go_at_call 20; rw [HW.out]; refine (lexer_part.calls (c.toNat : Int) true _ (by rw [part_f, HP.out])).mono ?_; rintro e w' ⟨rfl, ⟨n2, rfl⟩⟩)
        go_roundw
        case rel =>
          refine ⟨k + 1, by go_num, by omega, ⟨?_⟩, by repeat (first | exact Drawn0.refl _ | apply Drawn0.step)⟩
          have h1 := HST.out
          have h2 := HA.out
          rw [HP.out, if_pos rfl] at h1
          omega
        case measure => simp [intOf]; omega
      | false =>
        have HP := Aside0.mk hp
        clear hp
        go_wp2_with (go_at_call 20; rw [HW.out]; refine (lexer_part.calls (c.toNat : Int) false _ (by rw [part_f, HP.out])).mono ?_; rintro e w' ⟨rfl, ⟨n2, rfl⟩⟩)
        go_ret
        refine ⟨ret_i64 ?_, by repeat (first | exact Drawn0.refl _ | apply Drawn0.step)⟩
        have h1 := HST.out
        have h2 := HA.out
        rw [HP.out, if_neg (by decide)] at h1
        have := HR.out
        omega
    · go_wp2
      go_ret
      refine ⟨ret_i64 ?_, by repeat (first | exact Drawn0.refl _ | apply Drawn0.step)⟩
      have e : k = a0.size := by omega
      subst e
      have h2 := HA.out
      rw [List.drop_eq_nil_of_le (by simp)] at h2
      have := HR.out
      simp [headOf] at h2
      omega

def run_digit.f (a0 : ByteArray) : Option Int := if a0.size ≤ 9223372036854775807 then some (headOf digitB a0.data.toList : Int) else none
set_option maxHeartbeats 1000000 in
theorem run_digit.calls (a0 : ByteArray) (r : Int) (w : World) (h : run_digit.f a0 = some r) :
    Calls Tryd.prog 13 #[.string a0, .func (.func 21) #[] #[]] w fun e w' => e = .returned (.int .i64 r) ∧ Drawn0 w w' := by
  unfold run_digit.f at h
  by_cases hs : a0.size ≤ 9223372036854775807
  case neg => rw [if_neg hs] at h; cases h
  rw [if_pos hs] at h
  have hr := Option.some.inj h
  clear h
  have HR := Lib.hid hr
  clear hr
  go_enter Tryd.func13, Tryd.ntmps13
  go_wp2
  go_loopw [8] (fun v wr => ∃ k : Nat, v = .int .i64 k ∧ k ≤ a0.size ∧ Aside0 (headOf digitB a0.data.toList = k + headOf digitB (a0.data.toList.drop k)) ∧ Drawn0 w wr) (fun v _ => a0.size - (intOf v).toNat)
  case atStart => exact ⟨0, rfl, Nat.zero_le _, ⟨by simp⟩, Drawn0.refl _⟩
  case round =>
    obtain ⟨k, rfl, hk, HA, ⟨n, rfl⟩⟩ := hrel
    by_cases hlt : k < a0.size
    · have hst := headOf_step digitB a0.data.toList k (by simpa using hlt)
      have hget : (a0.data.toList[k]'(by simpa using hlt)) = a0[k] := rfl
      rw [hget] at hst
      obtain ⟨c, hc⟩ : ∃ c, c = a0[k] := ⟨_, rfl⟩
      rw [← hc] at hst
      have HST := Aside0.mk hst
      have hb : c.toNat < 256 := c.toNat_lt
      have hw : wrap32 (a0[k].toNat : Int) = (c.toNat : Int) := by rw [← hc]; unfold wrap32; omega
      have HW := Aside0.mk hw
      clear hst hget hc hw hb
      cases hp : digitB (c.toNat : Int) with
      | true =>
        have HP := Aside0.mk hp
        clear hp
        go_wp2_with (go_at_call 21; rw [HW.out]; refine (lexer_digit.calls (c.toNat : Int) true _ (by rw [digit_f, HP.out])).mono ?_; rintro e w' ⟨rfl, ⟨n2, rfl⟩⟩)
        go_roundw
        case rel =>
          refine ⟨k + 1, by go_num, by omega, ⟨?_⟩, by repeat (first | exact Drawn0.refl _ | apply Drawn0.step)⟩
          have h1 := HST.out
          have h2 := HA.out
          rw [HP.out, if_pos rfl] at h1
          omega
        case measure => simp [intOf]; omega
      | false =>
        have HP := Aside0.mk hp
        clear hp
        go_wp2_with (go_at_call 21; rw [HW.out]; refine (lexer_digit.calls (c.toNat : Int) false _ (by rw [digit_f, HP.out])).mono ?_; rintro e w' ⟨rfl, ⟨n2, rfl⟩⟩)
        go_ret
        refine ⟨ret_i64 ?_, by repeat (first | exact Drawn0.refl _ | apply Drawn0.step)⟩
        have h1 := HST.out
        have h2 := HA.out
        rw [HP.out, if_neg (by decide)] at h1
        have := HR.out
        omega
    · go_wp2
      go_ret
      refine ⟨ret_i64 ?_, by repeat (first | exact Drawn0.refl _ | apply Drawn0.step)⟩
      have e : k = a0.size := by omega
      subst e
      have h2 := HA.out
      rw [List.drop_eq_nil_of_le (by simp)] at h2
      have := HR.out
      simp [headOf] at h2
      omega
end Go.Proofs.YtnmdlimpfckicaaDoor.R

import Derived.Test.YtnmdlimpfckicaaQxf5
import Derived.Test.YtnmdlimpfckicaaQxf6
import Derived.Test.YtnmdlimpfckicaaQxf9
/-! The plain law of LexerNames. -/
namespace Go.Proofs.Ytnmdlimpfckicaa.Np
open Go.RowKit Go.Proofs.Ytnmdlimpfckicaa.Q Go.Proofs.Ytnmdlimpfckicaa.R Go.Proofs.Ytnmdlimpfckicaa.S Go.Proofs.Ytnmdlimpfckicaa.V
open Go.Proofs.YtnmdlimpfckicaaW.PrintWords Go.Proofs.YtnmdlimpfckicaaW.PrintLast Go.Proofs.YtnmdlimpfckicaaW.PrintMore
theorem awake_true : ∃ k, chancerylaw19_awake.f k = some true := ⟨40, by decide +kernel⟩
#print axioms awake_true
/-- What a name is. -/
def nameB (a0 : ByteArray) : Bool := decide (0 < a0.size) && decide (a0.size ≤ 24) && letterB (bt a0 0) && decide (headOf partB a0.data.toList = a0.size) && !reservedB a0.data.toList
theorem toList_nil (a0 : ByteArray) : (a0.toList = ([] : List UInt8)) ↔ a0.size = 0 := by
  rw [ByteArray.toList_eq]
  constructor
  · intro h; have := congrArg List.length h; simpa using this
  · intro h; exact List.eq_nil_of_length_eq_zero (by simpa using h)
theorem wrap32_bt (a0 : ByteArray) (i : Int) : wrap32 (bt a0 i) = bt a0 i := by
  have := bt_range a0 i
  unfold wrap32
  omega
theorem name_f (a0 : ByteArray) (hs : a0.size ≤ 140737488351232) : lexer_Name.f a0 = some (nameB a0) := by
  unfold lexer_Name.f nameB
  by_cases h0 : a0.size = 0
  · rw [if_pos ((toList_nil a0).mpr h0)]; simp [h0]
  rw [if_neg (fun h => h0 ((toList_nil a0).mp h))]
  by_cases h1 : a0.size ≤ 24
  case neg => rw [if_neg (by omega)]; simp [h1]
  rw [if_pos (by omega), if_pos (by omega), wrap32_bt, letter_f]
  simp only [Option.bind_some]
  cases hl : letterB (bt a0 0)
  · simp
  rw [if_pos rfl]
  unfold run_part.f lexer_Reserved.f
  rw [if_pos (by omega), if_pos (by omega)]
  simp only [Option.bind_some]
  by_cases hh : headOf partB a0.data.toList = a0.size
  · rw [if_pos (by exact_mod_cast hh)]
    have : 0 < a0.size := by omega
    simp [hh, h1, this]
  · rw [if_neg (by exact_mod_cast hh)]; simp [hh]
theorem refletter_f (c : Int) : chanceryref19_letter.f c = some (letterB c) := by
  unfold chanceryref19_letter.f letterB
  by_cases h1 : c ≥ 97
  · rw [if_pos h1]
    by_cases h2 : c ≤ 122
    · rw [if_pos h2]; simp [show (97 : Int) ≤ c from h1, h2]
    · rw [if_neg h2]; simp [h2]
  · rw [if_neg h1]; simp [show ¬ (97 : Int) ≤ c from h1]
theorem refdigit_f (c : Int) : chanceryref19_digit.f c = some (digitB c) := by
  unfold chanceryref19_digit.f digitB
  by_cases h1 : c ≥ 48
  · rw [if_pos h1]; simp [show (48 : Int) ≤ c from h1]
  · rw [if_neg h1]; simp [show ¬ (48 : Int) ≤ c from h1]
theorem loop_f (a0 : ByteArray) (hs : a0.size ≤ 140737488351232) (n i : Nat) (h : i + n = a0.size) : chanceryref19_Name.l0 (n + 1) a0 (i : Int) = some (decide (headOf partB (a0.data.toList.drop i) = n)) := by
  induction n generalizing i with
  | zero =>
    unfold chanceryref19_Name.l0
    rw [if_neg (by omega), List.drop_of_length_le (by simp; omega)]; rfl
  | succ n ih =>
    unfold chanceryref19_Name.l0
    rw [if_pos (by omega), if_pos (by omega), refletter_f, refdigit_f]
    simp only [Option.bind_some]
    have hl : i < a0.data.toList.length := by simp; omega
    have hb : bt a0 (i : Int) = ((a0.data.toList[i]'hl).toNat : Int) := by
      have h1 := bt_at a0 (i : Int) (by omega)
      rw [← h1]; rfl
    have hw : wrap64 ((i : Int) + 1) = ((i + 1 : Nat) : Int) := by unfold wrap64; omega
    have hi := ih (i + 1) (by omega)
    rw [headOf_step partB a0.data.toList i hl, ← hb, hw, hi]
    unfold partB
    cases letterB (bt a0 i) <;> cases digitB (bt a0 i) <;> simp
theorem refname_f (a0 : ByteArray) (hs : a0.size ≤ 140737488351232) : ∃ k, chanceryref19_Name.f k a0 = some (nameB a0) := by
  refine ⟨a0.size + 1, ?_⟩
  unfold chanceryref19_Name.f nameB
  have hj : ∀ k, chanceryref19_Name.j0 (k + 1) a0 true = some false := by intro k; unfold chanceryref19_Name.j0; rfl
  by_cases h0 : a0.size = 0
  · rw [if_pos ((toList_nil a0).mpr h0), hj]; simp [h0]
  rw [if_neg (fun h => h0 ((toList_nil a0).mp h))]
  by_cases h1 : a0.size ≤ 24
  case neg => rw [if_pos (by omega), hj]; simp [h1]
  rw [if_neg (by omega), if_pos (by omega), refletter_f]
  simp only [Option.bind_some]
  cases hl : letterB (bt a0 0)
  · rw [if_neg (by simp), hj]; simp
  rw [if_pos rfl]
  unfold chanceryref19_Reserved.f
  rw [if_pos (by omega)]
  simp only [Option.bind_some]
  cases hr : reservedB a0.data.toList
  case true => rw [hj]; simp
  have e : chanceryref19_Name.j0 (a0.size + 1) a0 false = chanceryref19_Name.l0 a0.size a0 ((1 : Nat) : Int) := by
    unfold chanceryref19_Name.j0; rfl
  obtain ⟨m, hm⟩ : ∃ m, a0.size = m + 1 := ⟨a0.size - 1, by omega⟩
  have hf := loop_f a0 hs m 1 (by omega)
  rw [e]
  conv => lhs; rw [hm]
  rw [hf]
  have hlen : 0 < a0.data.toList.length := by simp; omega
  have hb : bt a0 (0 : Int) = ((a0.data.toList[0]'hlen).toNat : Int) := by
    have h1 := bt_at a0 (0 : Int) (by simp; omega)
    rw [← h1]; rfl
  have hd := headOf_step partB a0.data.toList 0 hlen
  rw [List.drop_zero, ← hb] at hd
  have hp : partB (bt a0 0) = true := by unfold partB; rw [hl]; rfl
  rw [hd, if_pos hp]
  have : 0 < a0.size := by omega
  have h23 : m ≤ 23 := by omega
  simp [this, hm, h23]
end Go.Proofs.Ytnmdlimpfckicaa.Np

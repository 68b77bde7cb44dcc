/- The reference's Reserved answers as the program's does. -/
import Derived.Test.YtnmdlimpfckicaaS
import Derived.Lib.IndexMore
import Derived.Lib.IndexLaws
import Derived.Lib.IndexBytes
namespace Go.Proofs.Ytnmdlimpfckicaa.V
open Go.RowKit Go.Proofs.Ytnmdlimpfckicaa.Q Go.Proofs.Ytnmdlimpfckicaa.S Go.Proofs.YtnmdlimpfckicaaW.PrintWords Go.Proofs.YtnmdlimpfckicaaW.PrintLast Go.Proofs.YtnmdlimpfckicaaW.PrintMore

def pat (a0 : ByteArray) : List UInt8 := 32 :: (a0.data.toList ++ [32])
theorem pat_len (a0 : ByteArray) : (pat a0).length = a0.size + 2 := by simp [pat]
theorem words_len : words.data.toList.length = 347 := by decide +kernel
theorem words_size : words.size = 347 := by decide +kernel
theorem words_good : ∀ c ∈ words.data.toList, c = 32 ∨ (97 ≤ c ∧ c ≤ 122) := by decide +kernel
/-- Where a byte is neither a letter nor a blank, no word is met. -/
theorem bad_not (a0 : ByteArray) (k : Nat) (hk : k < a0.size) (hb : a0[k].toNat < 97 ∨ 122 < a0[k].toNat) : reservedB a0.data.toList = false := by
  unfold reservedB
  cases hc : decide (0 ≤ Lib.indexByte a0.data.toList 32) with
  | true => simp
  | false =>
    have hno : Lib.indexByte a0.data.toList 32 = -1 := by
      have h1 := of_decide_eq_false hc
      have := Lib.indexByte_ge a0.data.toList 32
      omega
    have hk' : k < a0.data.toList.length := by simpa using hk
    have h32 : a0[k] ≠ 32 := by
      intro e
      have := Lib.indexByte_none hno k
      rw [List.getElem?_eq_getElem hk'] at this
      exact this (congrArg some e)
    have : Lib.contains words.data.toList (32 :: (a0.data.toList ++ [32])) = false := by
      unfold Lib.contains
      rcases Lib.index_spec words.data.toList (32 :: (a0.data.toList ++ [32])) with ⟨h, _⟩ | ⟨i, h, hi, ho, _⟩
      · rw [h]; rfl
      · exfalso
        have hroom := Lib.index_room words.data.toList (32 :: (a0.data.toList ++ [32])) (by rw [h]; omega)
        rw [h] at hroom
        have ht := Lib.occAt_iff_take words.data.toList (32 :: (a0.data.toList ++ [32])) i (by omega)
        rw [ho] at ht
        have ht := eq_of_beq ht.symm
        have hm : a0[k] ∈ words.data.toList := by
          have h1 : a0[k] ∈ (32 :: (a0.data.toList ++ [32])) := by
            refine List.mem_cons_of_mem _ (List.mem_append_left _ ?_)
            exact List.getElem_mem hk'
          rw [← ht] at h1
          exact List.mem_of_mem_drop (List.mem_of_mem_take h1)
        rcases words_good _ hm with h | ⟨h1, h2⟩
        · exact h32 h
        · have := UInt8.le_iff_toNat_le.1 h1
          have := UInt8.le_iff_toNat_le.1 h2
          have e1 : (97 : UInt8).toNat = 97 := rfl
          have e2 : (122 : UInt8).toNat = 122 := rfl
          omega
    rw [this]; simp
/-- Where all bytes are letters, what is left is whether a word is met. -/
theorem good_is (a0 : ByteArray) (h0 : 0 < a0.size) (hg : ∀ k (hk : k < a0.size), 97 ≤ a0[k].toNat ∧ a0[k].toNat ≤ 122) : reservedB a0.data.toList = Lib.contains words.data.toList (pat a0) := by
  unfold reservedB
  have he : a0.data.toList.isEmpty = false := by
    cases h : a0.data.toList with
    | nil => exact absurd (by simpa using congrArg List.length h : a0.size = 0) (by omega)
    | cons => rfl
  have hn : decide (0 ≤ Lib.indexByte a0.data.toList 32) = false := by
    refine decide_eq_false fun h => ?_
    obtain ⟨o, ho⟩ := Int.eq_ofNat_of_zero_le h
    have := (Lib.indexByte_some ho).1
    obtain ⟨hlt, he⟩ := List.getElem?_eq_some_iff.1 this
    have h2 := hg o (by simpa using hlt)
    have e : a0[o]'(by simpa using hlt) = 32 := he
    rw [e] at h2
    simp at h2
  rw [he, hn]
  rfl
theorem empty_not (a0 : ByteArray) (h0 : a0.size = 0) : reservedB a0.data.toList = false := by
  have : a0.data.toList = [] := List.eq_nil_of_length_eq_zero (by simpa using h0)
  rw [this]; rfl
theorem both_lists (a0 : ByteArray) (i : Nat) : ((words.extract i (i + (a0.size + 2))).toList == ((⟨#[32]⟩ : ByteArray) ++ a0 ++ (⟨#[32]⟩ : ByteArray)).toList) = ((words.data.toList.drop i).take (pat a0).length == pat a0) := by
  have e1 : (words.extract i (i + (a0.size + 2))).toList = (words.data.toList.drop i).take (pat a0).length := by
    rw [ByteArray.toList_eq, Lib.extract_data, pat_len]; congr 1; omega
  have e2 : ((⟨#[32]⟩ : ByteArray) ++ a0 ++ (⟨#[32]⟩ : ByteArray)).toList = pat a0 := by
    rw [ByteArray.toList_eq]; simp [pat]
  rw [e1, e2]
theorem hit (a0 : ByteArray) (i : Nat) (hr : i + (a0.size + 2) ≤ 347) (hn : Lib.NoOcc words.data.toList (pat a0) i) (h : ((words.extract i (i + (a0.size + 2))).toList == ((⟨#[32]⟩ : ByteArray) ++ a0 ++ (⟨#[32]⟩ : ByteArray)).toList) = true) : Lib.contains words.data.toList (pat a0) = true := by
  rw [both_lists] at h
  have hl := words_len
  have ho : Lib.occAt words.data.toList (pat a0) i = true := by rw [Lib.occAt_iff_take _ _ _ (by rw [pat_len]; omega)]; exact h
  unfold Lib.contains
  rw [Lib.index_hit hn (by omega) ho]
  exact decide_eq_true (by omega)
theorem miss (a0 : ByteArray) (i : Nat) (hr : i + (a0.size + 2) ≤ 347) (hn : Lib.NoOcc words.data.toList (pat a0) i) (h : ((words.extract i (i + (a0.size + 2))).toList == ((⟨#[32]⟩ : ByteArray) ++ a0 ++ (⟨#[32]⟩ : ByteArray)).toList) = false) : Lib.NoOcc words.data.toList (pat a0) (i + 1) := by
  rw [both_lists] at h
  have hl := words_len
  exact hn.succ (by rw [Lib.occAt_iff_take _ _ _ (by rw [pat_len]; omega)]; exact h)
theorem past (a0 : ByteArray) (i : Nat) (hr : 347 < i + (a0.size + 2)) (hn : Lib.NoOcc words.data.toList (pat a0) i) : Lib.contains words.data.toList (pat a0) = false := by
  unfold Lib.contains
  rw [Lib.index_past (by simp [pat]) hn (by rw [pat_len, words_len]; exact hr)]
  rfl
def chanceryref19_Reserved.f (a0 : ByteArray) : Option Bool := if a0.size ≤ 9223372036854775000 then some (reservedB a0.data.toList) else none
set_option maxHeartbeats 8000000 in
set_option maxRecDepth 100000 in
theorem chanceryref19_Reserved.calls (a0 : ByteArray) (r : Bool) (w : World) (h : chanceryref19_Reserved.f a0 = some r) :
    Calls Try.prog 8 #[.string a0] w fun e w' => e = .returned (.bool r) ∧ Drawn0 w w' := by
  unfold chanceryref19_Reserved.f at h
  by_cases hs : a0.size ≤ 9223372036854775000
  case neg => rw [if_neg hs] at h; cases h
  rw [if_pos hs] at h
  have HR := Aside0.mk (Option.some.inj h)
  clear h
  go_enter Try.func8, Try.ntmps8
  go_wp2_with fail
  go_loop [3] (fun v => ∃ k : Nat, v = .int .i64 k ∧ k ≤ a0.size ∧ Aside0 (∀ j (hj : j < a0.size), j < k → 97 ≤ a0[j].toNat ∧ a0[j].toNat ≤ 122)) (fun v => a0.size - (intOf v).toNat)
  case atStart => exact ⟨0, rfl, Nat.zero_le _, ⟨fun j _ hj => by omega⟩⟩
  case round =>
    obtain ⟨k, rfl, hk, HG⟩ := hrel
    by_cases hlt : k < a0.size
    · by_cases hlo : (a0[k].toNat : Int) < 97
      · go_wp2_with fail
        go_ret
        exact ⟨ret_bool (by rw [← HR.out, bad_not a0 k hlt (by omega)]), Drawn0.refl _⟩
      · by_cases hhi : 122 < (a0[k].toNat : Int)
        · go_wp2_with fail
          go_ret
          exact ⟨ret_bool (by rw [← HR.out, bad_not a0 k hlt (by omega)]), Drawn0.refl _⟩
        · go_wp2_with fail
          go_round
          case rel => exact ⟨k + 1, by go_num, by omega, ⟨fun j hj h => by rcases (show j < k ∨ j = k by omega) with h | rfl; exact HG.out j hj h; omega⟩⟩
          case measure => simp [intOf]; omega
    · go_wp2_with fail
      have hgood : ∀ j (hj : j < a0.size), 97 ≤ a0[j].toNat ∧ a0[j].toNat ≤ 122 := fun j hj => HG.out j hj (by omega)
      have HGd := Aside0.mk hgood
      clear hgood HG hlt hk
      go_loop [5] (fun v => ∃ i : Nat, v = .int .i64 i ∧ i ≤ 347 ∧ Aside0 (Lib.NoOcc words.data.toList (pat a0) i)) (fun v => 347 - (intOf v).toNat)
      case atStart => exact ⟨0, rfl, by omega, ⟨Lib.NoOcc.zero _ _⟩⟩
      case round =>
        obtain ⟨i, rfl, hi, HN⟩ := hrel
        by_cases h0 : a0.size = 0
        · have h0' : ¬ (0 : Int) < a0.size := by omega
          go_wp2_with fail
          go_ret
          exact ⟨ret_bool (by rw [← HR.out, empty_not a0 h0]), Drawn0.refl _⟩
        · have h0' : (0 : Int) < a0.size := by omega
          by_cases hroom : (i : Int) + ((a0.size : Int) + 2) ≤ 347
          · have hx1 : 1 + a0.size ≤ 9223372036854775807 := by omega
            have hx2 : 1 + a0.size + 1 ≤ 9223372036854775807 := by omega
            have hsl : ∀ W, (Instr.slice 9 (.string words) (some (.int .i64 (i : Int))) (some (.int .i64 ((i : Int) + ((a0.size : Int) + 2)))) none).run Try.prog W = .ok (.string (words.extract i (i + (a0.size + 2)))) W := by
              intro W
              have := run_slice_string (P := Try.prog) (w := W) 9 words .i64 .i64 (i : Int) ((i : Int) + ((a0.size : Int) + 2)) Try.underlying9 (by omega) (by omega) (by have := words_size; omega)
              rw [this, Int.toNat_natCast, show ((i : Int) + ((a0.size : Int) + 2)).toNat = i + (a0.size + 2) by omega]
            unfold words at hsl
            go_wp2_with fail
            · have ht : ((words.extract i (i + (a0.size + 2))).toList == ((⟨#[32]⟩ : ByteArray) ++ a0 ++ (⟨#[32]⟩ : ByteArray)).toList) = true := by assumption
              go_ret
              refine ⟨ret_bool ?_, Drawn0.refl _⟩
              rw [← HR.out, good_is a0 (by omega) HGd.out, hit a0 i (by omega) HN.out ht]
            · have ht : ((words.extract i (i + (a0.size + 2))).toList == ((⟨#[32]⟩ : ByteArray) ++ a0 ++ (⟨#[32]⟩ : ByteArray)).toList) = false := by assumption
              go_round
              case rel => exact ⟨i + 1, by go_num, by omega, ⟨miss a0 i (by omega) HN.out ht⟩⟩
              case measure => simp [intOf]; omega
          · go_wp2_with fail
            go_ret
            refine ⟨ret_bool ?_, Drawn0.refl _⟩
            rw [← HR.out, good_is a0 (by omega) HGd.out, past a0 i (by omega) HN.out]
end Go.Proofs.Ytnmdlimpfckicaa.V

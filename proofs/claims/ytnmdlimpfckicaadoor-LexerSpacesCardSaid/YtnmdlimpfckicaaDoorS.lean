/- strings.IndexByte in the print's form; lexer.Reserved. -/
import Derived.Test.YtnmdlimpfckicaaDoorQx0
import Derived.Test.YtnmdlimpfckicaaDoorShelf
import Derived.Lib.Hide
import Derived.Outline
namespace Go.Proofs.YtnmdlimpfckicaaDoor.S
open Go.RowKit Go.Proofs.YtnmdlimpfckicaaDoor.Q Go.Proofs.YtnmdlimpfckicaaDoorW.PrintWords Go.Proofs.YtnmdlimpfckicaaDoorW.PrintLast Go.Proofs.YtnmdlimpfckicaaDoorW.PrintMore

/-- The library's variable (internal/bytealg.MaxLen) holds some number. -/
def GlobOK (w : World) : Prop := ∃ m : Int, w.cell? ⟨0, 0, none⟩ = some (.int .i64 m)
theorem GlobOK.below {w w1 : World} (h : GlobOK w) (hb : Below w.heap.size w w1) : GlobOK w1 := by
  obtain ⟨m, hm⟩ := h
  exact ⟨m, pw_cell_below hb hm⟩
theorem GlobOK.drawn {w w1 : World} (h : GlobOK w) (hb : Drawn0 w w1) : GlobOK w1 := h.below hb.below

def strings_IndexByte.f (a0 : ByteArray) (a1 : Int) : Option Int := some (Lib.indexByte a0.data.toList a1.toNat.toUInt8)
theorem strings_IndexByte.calls (a0 : ByteArray) (a1 : Int) (r : Int) (w : World) (h : strings_IndexByte.f a0 a1 = some r) :
    Calls Tryd.prog 16 #[.string a0, .int .u8 a1] w fun e w' => e = .returned (.int .i64 r) ∧ Drawn0 w w' := by
  injection h with h
  refine (Tryd.strings_IndexByte a0 a1 w).mono ?_
  rintro e w' ⟨rfl, rfl⟩
  exact ⟨by rw [h], Drawn0.refl _⟩

/-- All reserved words, a blank on either side: the program's text, as it lies in the translation. -/
def words : ByteArray := ⟨#[32, 97, 99, 116, 105, 111, 110, 32, 97, 100, 100, 32, 97, 108, 108, 32, 97, 110, 100, 32, 97, 115, 32, 97, 115, 99, 32, 98, 101, 103, 105, 110, 32, 98, 111, 111, 108, 32, 98, 121, 116, 101, 115, 32, 99, 97, 115, 99, 97, 100, 101, 32, 99, 104, 101, 99, 107, 32, 99, 111, 109, 109, 105, 116, 32, 99, 111, 117, 110, 116, 32, 99, 114, 101, 97, 116, 101, 32, 100, 101, 99, 32, 100, 101, 108, 101, 116, 101, 32, 100, 101, 115, 99, 32, 100, 114, 111, 112, 32, 102, 97, 108, 115, 101, 32, 102, 114, 111, 109, 32, 103, 114, 97, 110, 116, 32, 103, 114, 111, 117, 112, 32, 98, 121, 32, 105, 110, 115, 101, 114, 116, 32, 105, 110, 116, 32, 105, 110, 116, 111, 32, 105, 115, 32, 106, 111, 105, 110, 32, 107, 101, 121, 32, 108, 105, 109, 105, 116, 32, 109, 97, 120, 32, 109, 105, 110, 32, 110, 111, 116, 32, 110, 117, 108, 108, 32, 111, 110, 32, 111, 112, 116, 105, 111, 110, 32, 111, 114, 32, 111, 114, 100, 101, 114, 32, 112, 111, 108, 105, 99, 121, 32, 112, 114, 105, 109, 97, 114, 121, 32, 114, 101, 102, 101, 114, 101, 110, 99, 101, 115, 32, 114, 101, 115, 116, 114, 105, 99, 116, 32, 114, 101, 118, 111, 107, 101, 32, 114, 111, 108, 101, 32, 114, 111, 108, 108, 98, 97, 99, 107, 32, 115, 101, 108, 101, 99, 116, 32, 115, 101, 116, 32, 115, 117, 109, 32, 116, 97, 98, 108, 101, 32, 116, 101, 120, 116, 32, 116, 111, 32, 116, 114, 105, 103, 103, 101, 114, 32, 116, 114, 117, 101, 32, 117, 110, 105, 113, 117, 101, 32, 117, 112, 100, 97, 116, 101, 32, 117, 115, 101, 114, 32, 117, 115, 105, 110, 103, 32, 118, 97, 108, 117, 101, 115, 32, 118, 105, 101, 119, 32, 119, 104, 101, 114, 101, 32, 119, 105, 116, 104, 32, 97, 102, 116, 101, 114, 32]⟩
def reservedB (l : List UInt8) : Bool := !l.isEmpty && (!decide (0 ≤ Lib.indexByte l 32) && Lib.contains words.data.toList (32 :: (l ++ [32])))
def lexer_Reserved.f (a0 : ByteArray) : Option Bool := if a0.size ≤ 9223372036854775000 then some (reservedB a0.data.toList) else none
theorem ret_bool {a b : Bool} (h : a = b) : Ending.returned (.bool a) = .returned (.bool b) := by rw [h]
set_option maxHeartbeats 4000000 in
set_option maxRecDepth 100000 in
theorem lexer_Reserved.calls (a0 : ByteArray) (r : Bool) (w : World) (h : lexer_Reserved.f a0 = some r) (hg : GlobOK w) :
    Calls Tryd.prog 11 #[.string a0] w fun e w' => e = .returned (.bool r) ∧ Drawn0 w w' := by
  unfold lexer_Reserved.f at h
  by_cases hs : a0.size ≤ 9223372036854775000
  case neg => rw [if_neg hs] at h; cases h
  rw [if_pos hs] at h
  have hr := Option.some.inj h
  clear h
  obtain ⟨m, hm⟩ := hg
  have HM := Aside0.mk hm
  have HS := Aside0.mk hs
  have hd := ByteArray.toList_eq a0
  clear hm hs
  unfold reservedB at hr
  cases he : a0.toList.isEmpty with
  | true =>
    have HR : Hid (false = r) := by rw [← hr, ← hd, he]; rfl
    clear hr hd
    go_enter Tryd.func11, Tryd.ntmps11
    go_wp2_with fail
    go_ret
    exact ⟨ret_bool HR.out, Drawn0.refl _⟩
  | false =>
    have he' : a0.data.toList.isEmpty = false := by rw [← hd]; exact he
    cases hc : decide (0 ≤ Lib.indexByte a0.data.toList 32) with
    | true =>
      have HR : Hid (false = r) := by rw [← hr, he', hc]; rfl
      have HC := Aside0.mk hc
      clear hr hd he' hc
      go_enter Tryd.func11, Tryd.ntmps11
      go_wp2_with fail
      refine (Tryd.strings_Contains_one a0 32 _).mono ?_
      rw [HC.out]
      rintro e w' ⟨rfl, rfl⟩
      go_wp2_with fail
      go_ret
      exact ⟨ret_bool HR.out, Drawn0.refl _⟩
    | false =>
      have HR : Hid (Lib.contains words.data.toList (32 :: (a0.data.toList ++ [32])) = r) := by rw [← hr, he', hc]; rfl
      have HC := Aside0.mk hc
      have hsz : a0.size + 2 ≤ 9223372036854775807 := by have := HS.out; omega
      have hsz1 : 1 + a0.size ≤ 9223372036854775807 := by omega
      have hsz2 : 1 + a0.size + 1 ≤ 9223372036854775807 := by omega
      clear hr hd he' hc
      go_enter Tryd.func11, Tryd.ntmps11
      go_wp2_with fail
      refine (Tryd.strings_Contains_one a0 32 _).mono ?_
      rw [HC.out]
      rintro e w' ⟨rfl, rfl⟩
      go_wp2_with fail
      refine (Tryd.strings_Contains words _ m _ (by decide +kernel) HM.out).mono ?_
      rintro e w' ⟨rfl, rfl⟩
      go_wp2_with fail
      go_ret
      refine ⟨ret_bool ?_, Drawn0.refl _⟩
      rw [← HR.out]
end Go.Proofs.YtnmdlimpfckicaaDoor.S

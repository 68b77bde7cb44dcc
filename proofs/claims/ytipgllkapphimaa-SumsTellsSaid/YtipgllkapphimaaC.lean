/- What the laws share: bytes, and what Crc comes to. -/
import Derived.Test.YtipgllkapphimaaB
import Derived.Test.YtipgllkapphimaaL
namespace Go.Proofs.Ytipgllkapphimaa.C
open Go.RowKit Go.Proofs.Ytipgllkapphimaa.Q Go.Proofs.Ytipgllkapphimaa.A Go.Proofs.Ytipgllkapphimaa.B Go.Proofs.Ytipgllkapphimaa.L Go.Proofs.YtipgllkapphimaaW.PrintWords Go.Proofs.YtipgllkapphimaaW.PrintLast Go.Proofs.YtipgllkapphimaaW.PrintMore

def Bytes (l : List Int) : Prop := ∀ c ∈ l, 0 ≤ c ∧ c < 256
theorem wf_byte {x : Int} (h : (Lit.int .u8 x).wf = true) : 0 ≤ x ∧ x < 256 := by
  simp [Lit.wf] at h
  have e1 : IntKind.u8.min = 0 := rfl
  have e2 : IntKind.u8.max = 255 := rfl
  rw [e1, e2] at h
  omega
theorem crc_num (l : List Int) (hl : Bytes l) : sums_Crc.f l = some (num (crcW l 0#32)) := by
  unfold sums_Crc.f
  have h0 : (0 : Int) = num 0#32 := by decide
  rw [h0, more_num l hl]
  rfl
theorem wrd_inj {l m : List Int} (hl : Bytes l) (hm : Bytes m) (h : l.map wrd = m.map wrd) : l = m := by
  have hlen : l.length = m.length := by simpa using congrArg List.length h
  apply List.ext_getElem hlen
  intro i h1 h2
  have e : wrd l[i] = wrd m[i] := by
    have : (l.map wrd)[i]'(by simpa using h1) = (m.map wrd)[i]'(by simpa using h2) := by simp only [h]
    simpa using this
  have a := hl _ (List.getElem_mem h1)
  have b := hm _ (List.getElem_mem h2)
  rw [← num_wrd l[i] a.1 (by omega), e, num_wrd _ b.1 (by omega)]
theorem strOf_inj {l m : List Int} (hl : Bytes l) (hm : Bytes m) : ((strOfNums l).toList == (strOfNums m).toList) = decide (l = m) := by
  have hd : ∀ z : List Int, (strOfNums z).toList = z.map fun n => UInt8.ofNat n.toNat := by
    intro z; rw [ByteArray.toList_eq]; rfl
  rw [hd, hd]
  by_cases h : l = m
  · subst h; simp
  · rw [decide_eq_false h, beq_eq_false_iff_ne]
    intro e
    apply h
    have hlen : l.length = m.length := by simpa using congrArg List.length e
    apply List.ext_getElem hlen
    intro i h1 h2
    have e2 : (l.map fun n : Int => UInt8.ofNat n.toNat)[i]'(by simpa using h1) = (m.map fun n : Int => UInt8.ofNat n.toNat)[i]'(by simpa using h2) := by simp only [e]
    rw [List.getElem_map, List.getElem_map] at e2
    have a := hl _ (List.getElem_mem h1)
    have b := hm _ (List.getElem_mem h2)
    have e3 := congrArg UInt8.toNat e2
    rw [UInt8.toNat_ofNat', UInt8.toNat_ofNat'] at e3
    omega
theorem awake_some : chancerylaw02_awake.f = some true := rfl

theorem xor_byte (x y : Int) : 0 ≤ bits .xor .u8 x y ∧ bits .xor .u8 x y < 256 := by
  have e : ∀ n : Int, IntKind.u8.wrap n = n % 256 := fun n => rfl
  unfold bits
  rw [e]
  omega

end Go.Proofs.Ytipgllkapphimaa.C

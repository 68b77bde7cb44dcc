/- For any sum and bytes all calls answer as the document defines: the walk of the law SumsTells. No condition but those that the row itself bears. -/
import Derived.Test.YtipgllkapphimaaE
namespace Go.Proofs.Ytipgllkapphimaa.Tl
open Go.RowKit Go.Proofs.Ytipgllkapphimaa.A Go.Proofs.Ytipgllkapphimaa.B Go.Proofs.Ytipgllkapphimaa.C Go.Proofs.Ytipgllkapphimaa.D Go.Proofs.Ytipgllkapphimaa.E Go.Proofs.Ytipgllkapphimaa.L Go.Proofs.Ytipgllkapphimaa.Q Go.Proofs.YtipgllkapphimaaW.PrintWords Go.Proofs.YtipgllkapphimaaW.PrintLast Go.Proofs.YtipgllkapphimaaW.PrintMore

set_option maxHeartbeats 2000000 in
theorem long_calls (a0 : Int) (A1 : Option Addr) (c1 : Nat) (l : List Int) (w : World) (hlong : 20000 < l.length) :
    Calls Try.prog 4 #[.int .u32 a0, .slice A1 l.length c1] w fun e w' => e = .returned (.bool true) ∧ Below w.heap.size w w' := by
  have h1 : (20000 : Int) < l.length := by omega
  go_enter Try.func4, Try.ntmps4
  go_wp2_with fail
  refine (chancerylaw02_awake.calls true _ rfl).mono ?_
  rintro e w1 ⟨rfl, hb⟩
  replace hb := Aside0.mk hb
  go_wp2_with fail
  go_ret
  exact ⟨rfl, hb.out⟩

set_option maxHeartbeats 4000000 in
theorem tells_calls (a0 : Int) (h0 : 0 ≤ a0) (h1 : a0 < 4294967296) (A1 : Option Addr) (c1 : Nat) (l : List Int) (hl : Bytes l) (hlen : l.length ≤ 20000) (w : World) (hr1 : Kd.C (Kd.int .u8) w A1 l.length l) (hc1 : l.length ≤ c1) :
    Calls Try.prog 4 #[.int .u32 a0, .slice A1 l.length c1] w fun e w' => e = .returned (.bool true) ∧ Below w.heap.size w w' := by
  obtain ⟨k1, hk1⟩ := fl_ref l hl hlen
  obtain ⟨k2, hk2⟩ := fl_own l hl hlen
  have F1 := Aside0.mk hk1
  have F2 := Aside0.mk hk2
  have M0 := Aside0.mk (ref_same l hl 0 (by decide) (by decide))
  have M1 := Aside0.mk (ref_same l hl a0 h0 h1)
  have C0 : sums_Crc.f l = some (4294967295 - refFold l (4294967295 - 0)) := by unfold sums_Crc.f; rw [M0.out]; rfl
  replace C0 := Aside0.mk C0
  have HL := Aside0.mk hl
  have HR := Aside0.mk hr1
  have HC := Aside0.mk hc1
  have HN := Aside0.mk hlen
  have hlen2 : (l.length : Int) ≤ 20000 := by omega
  clear hk1 hk2 hl hr1 hc1 hlen
  obtain ⟨s0, hs0⟩ : ∃ s, s = 4294967295 - refFold l (4294967295 - 0) := ⟨_, rfl⟩
  obtain ⟨s1, hs1⟩ : ∃ s, s = 4294967295 - refFold l (4294967295 - a0) := ⟨_, rfl⟩
  obtain ⟨s2, hs2⟩ : ∃ s, s = fl l 0 0 := ⟨_, rfl⟩
  rw [← hs0] at M0 C0
  rw [← hs1] at M1
  rw [← hs2] at F1 F2
  have S0 := Aside0.mk hs0
  have S1 := Aside0.mk hs1
  clear hs0 hs1 hs2
  go_enter Try.func4, Try.ntmps4
  go_wp2_with fail
  refine (lent_calls A1 c1 l _ HR.out HC.out HN.out).mono ?_
  rintro e w1 ⟨A, c, rfl, hcap, hin, hb⟩
  have HI := Aside0.mk hin
  have HB := Aside0.mk hb
  have HK := Aside0.mk hcap
  clear hin hb hcap
  go_wp2_with fail
  refine (sums_Crc.calls _ _ l _ _ (pre_C HI.out) (by have := HK.out; omega) C0.out).mono ?_
  rintro e w2 ⟨rfl, hb⟩
  replace HI := Aside0.mk (Kd.C_below HI.out hb)
  replace HB := Aside0.mk (below_step HB.out hb)
  clear hb
  go_wp2_with fail
  refine (ref_calls 0 (by decide) (by decide) _ _ l _ (Kd.C_below HR.out HB.out) HL.out).mono ?_
  rw [← S0.out]
  rintro e w2' ⟨rfl, rfl⟩
  go_wp2_with fail
  refine (sums_More.calls _ _ _ l _ _ (pre_C HI.out) (by have := HK.out; omega) M1.out).mono ?_
  rintro e w3 ⟨rfl, hb⟩
  replace HI := Aside0.mk (Kd.C_below HI.out hb)
  replace HB := Aside0.mk (below_step HB.out hb)
  clear hb
  go_wp2_with fail
  refine (ref_calls a0 h0 h1 _ _ l _ (Kd.C_below HR.out HB.out) HL.out).mono ?_
  rw [← S1.out]
  rintro e w3' ⟨rfl, rfl⟩
  go_wp2_with fail
  refine (sums_Fletcher.calls k2 _ _ l _ _ (pre_C HI.out) (by have := HK.out; omega) F2.out).mono ?_
  rintro e w4 ⟨rfl, hb⟩
  replace HI := Aside0.mk (Kd.C_below HI.out hb.below)
  replace HB := Aside0.mk (below_step HB.out hb.below)
  clear hb
  go_wp2_with fail
  refine (chanceryref02_Fletcher.calls k1 _ _ l _ _ (Kd.C_below HR.out HB.out) HC.out F1.out).mono ?_
  rintro e w5 ⟨rfl, hb⟩
  replace HI := Aside0.mk (Kd.C_below HI.out hb.below)
  replace HB := Aside0.mk (below_step HB.out hb.below)
  clear hb
  go_wp2_with fail
  refine (kept_calls _ _ _ _ l _ HI.out HK.out (Kd.C_below HR.out HB.out) HC.out HN.out).mono ?_
  rintro e w6 ⟨rfl, hb⟩
  replace HB := Aside0.mk (below_step HB.out hb)
  clear hb
  go_wp2_with fail
  refine (chancerylaw02_awake.calls true _ rfl).mono ?_
  rintro e w7 ⟨rfl, hb⟩
  replace HB := Aside0.mk (below_step HB.out hb)
  clear hb
  go_wp2_with fail
  go_ret
  exact ⟨rfl, HB.out⟩

theorem walk (a0 : Int) (a1 : Option Addr) (len1 cap1 : Nat) (z1 : List Int) (w : World) (w0 : (Lit.int .u32 a0).wf = true) (w1 : (a1 = none ∧ len1 = 0 ∧ cap1 = 0 ∧ z1 = []) ∨ ∃ x, a1 = some x ∧ len1 ≤ cap1 ∧ cap1 ≤ maxLen ∧ z1.length = cap1 ∧ (∀ i, i < z1.length → w.cell? (x.add i) = some (.int .u8 (z1.getD i 0))) ∧ ∀ n ∈ z1, (Lit.int .u8 n).wf = true) (_ : len1 * 1 ≤ 140737488351232) :
    Calls Try.prog 4 #[.int .u32 a0, .slice a1 len1 cap1] w fun e w' => e = .returned (.bool true) ∧ Below w.heap.size w w' := by
  obtain ⟨l1, rfl, hr1, hm1, hw1, hc1⟩ := ReadsInt.ofRowC w1
  have hb : Bytes l1 := fun x hx => wf_byte (hw1 x hx)
  have ha : 0 ≤ a0 ∧ a0 < 4294967296 := by
    simp [Lit.wf] at w0
    have e1 : IntKind.u32.min = 0 := rfl
    have e2 : IntKind.u32.max = 4294967295 := rfl
    rw [e1, e2] at w0
    omega
  by_cases h : 20000 < l1.length
  · exact long_calls a0 a1 cap1 l1 w h
  · exact tells_calls a0 ha.1 ha.2 a1 cap1 l1 hb (by omega) w (Kd.C_of_reads (d := (0 : Int)) (h1 := fun _ => rfl) hr1) hc1
end Go.Proofs.Ytipgllkapphimaa.Tl

/- Walks by hand for the law SumsTells: the reference's More, what is lent and kept. -/
import Derived.Test.YtipgllkapphimaaB
import Derived.Test.YtipgllkapphimaaC
import Derived.Test.YtipgllkapphimaaQxf16
import Derived.Test.YtipgllkapphimaaQxf17
import Derived.Test.YtipgllkapphimaaQxf13
import Derived.Outline
namespace Go.Proofs.Ytipgllkapphimaa.D
open Go.RowKit Go.Proofs.Ytipgllkapphimaa.A Go.Proofs.Ytipgllkapphimaa.B Go.Proofs.Ytipgllkapphimaa.C Go.Proofs.Ytipgllkapphimaa.L Go.Proofs.Ytipgllkapphimaa.Q Go.Proofs.YtipgllkapphimaaW.PrintWords Go.Proofs.YtipgllkapphimaaW.PrintLast Go.Proofs.YtipgllkapphimaaW.PrintMore

/-- The register, one bit further. -/
def bitStep (x b : Int) : Int := if b = x % 2 then x / 2 else bits .xor .u32 (x / 2) 3988292384
def bitsTo : Nat → Int → Int → Int
  | 0, x, _ => x
  | j + 1, x, c => bitStep (bitsTo j x c) (c / 2 ^ j % 2)
def refFold (l : List Int) (x : Int) : Int := l.foldl (fun x c => bitsTo 8 x c) x
theorem bitStep_lo (x b : Int) (h0 : 0 ≤ x) (h1 : x < 4294967296) : 0 ≤ bitStep x b ∧ bitStep x b < 4294967296 := by
  unfold bitStep
  split
  · omega
  · exact bits_u32 _ _ _
theorem bitsTo_lo (j : Nat) (x c : Int) (h0 : 0 ≤ x) (h1 : x < 4294967296) : 0 ≤ bitsTo j x c ∧ bitsTo j x c < 4294967296 := by
  induction j with
  | zero => exact ⟨h0, h1⟩
  | succ j ih => exact bitStep_lo _ _ ih.1 ih.2
theorem refFold_step (l : List Int) (i x : Int) (h0 : 0 ≤ i) (h : i < l.length) : refFold (l.take (i + 1).toNat) x = bitsTo 8 (refFold (l.take i.toNat) x) (rd l i) := by
  rw [show (i + 1).toNat = i.toNat + 1 by omega, take_snoc l i.toNat (by omega)]
  simp only [refFold, List.foldl_append, List.foldl_cons, List.foldl_nil]
  rfl
theorem ret_u32 {a b : Int} (h : a = b) : Ending.returned (.int .u32 a) = .returned (.int .u32 b) := by rw [h]

theorem tmod2 (c : Int) (j : Nat) (h : 0 ≤ c) : (c / 2 ^ j).tmod 2 = c / 2 ^ j % 2 := by
  have : 0 ≤ c / 2 ^ j := Int.ediv_nonneg h (Int.le_of_lt (Int.pow_pos (by decide)))
  rw [Int.tmod_eq_emod_of_nonneg this]
theorem step_ne (s c : Int) (j : Nat) (r : Int) (h : 0 ≤ c) (hs : s = bitsTo j r c) (ht : ((c / 2 ^ j).tmod 2 != s % 2) = true) : bits .xor .u32 (s / 2) 3988292384 = bitsTo (j + 1) r c := by
  rw [tmod2 c j h, bne_iff_ne] at ht
  simp only [bitsTo]
  rw [← hs]
  unfold bitStep
  rw [if_neg ht]
theorem step_eq (s c : Int) (j : Nat) (r : Int) (h : 0 ≤ c) (hs : s = bitsTo j r c) (ht : ((c / 2 ^ j).tmod 2 != s % 2) = false) : s / 2 = bitsTo (j + 1) r c := by
  rw [tmod2 c j h, bne_eq_false_iff_eq] at ht
  simp only [bitsTo]
  rw [← hs]
  unfold bitStep
  rw [if_pos ht]

set_option maxHeartbeats 2000000 in
theorem ref_calls (a0 : Int) (ha0 : 0 ≤ a0) (ha1 : a0 < 4294967296) (A1 : Option Addr) (c1 : Nat) (l1 : List Int) (w : World) (hr1 : Kd.C (Kd.int .u8) w A1 l1.length l1) (hb : Bytes l1) :
    Calls Try.prog 12 #[.int .u32 a0, .slice A1 l1.length c1] w fun e w' => e = .returned (.int .u32 (4294967295 - refFold l1 (4294967295 - a0))) ∧ w = w' := by
  have HR1 := Aside0.mk hr1
  have HBy := Aside0.mk hb
  have hlen : (l1.length : Int) ≤ 9223372036854775807 := by have := hr1.2.1; omega
  clear hr1 hb
  go_enter Try.func12, Try.ntmps12
  go_wp2_with fail
  go_loop [5, 6, 7, 8, 9] (fun x v _ _ _ => ∃ (r i : Int), x = .int .u32 r ∧ 0 ≤ r ∧ r < 4294967296 ∧ v = .int .i64 i ∧ 0 ≤ i ∧ i ≤ l1.length ∧ Aside0 (r = refFold (l1.take i.toNat) (4294967295 - a0))) (fun _ v _ _ _ => l1.length - (intOf v).toNat)
  case atStart => exact ⟨_, 0, rfl, by omega, by omega, rfl, by omega, by omega, ⟨rfl⟩⟩
  case round =>
    obtain ⟨r, i, rfl, hr0, hr1, rfl, hi0, hi, HX⟩ := hrel
    by_cases hlt : i < l1.length
    · obtain ⟨ad, e1, hc1⟩ := Kd.at_int HR1.out i hi0 hlt
      subst e1
      have hby := HBy.out (rd l1 i) (by unfold rd; rw [List.getD_eq_getElem?_getD, List.getElem?_eq_getElem (show i.toNat < l1.length by omega)]; exact List.getElem_mem _)
      obtain ⟨c, hc⟩ : ∃ c, c = rd l1 i := ⟨_, rfl⟩
      rw [← hc] at hc1 hby
      obtain ⟨hb0, hb1⟩ := hby
      have HC := Aside0.mk hc
      clear hc
      go_wp2_with fail
      go_loop [5, 7, 8, 9] (fun x v _ _ => ∃ (s j : Int), x = .int .u32 s ∧ 0 ≤ s ∧ s < 4294967296 ∧ v = .int .i64 j ∧ 0 ≤ j ∧ j ≤ 8 ∧ Aside0 (s = bitsTo j.toNat r c)) (fun _ v _ _ => 8 - (intOf v).toNat)
      case atStart => exact ⟨r, 0, rfl, hr0, hr1, rfl, by omega, by omega, ⟨rfl⟩⟩
      case round =>
        obtain ⟨s, j, rfl, hs0, hs1, rfl, hj0, hj, HS⟩ := hrel
        by_cases hlt2 : j < 8
        · go_wp2_with fail
          · have ht : ((c / 2 ^ j.toNat).tmod 2 != s % 2) = true := by assumption
            go_round
            case rel =>
              refine ⟨_, j + 1, rfl, (bits_u32 .xor _ _).1, (bits_u32 .xor _ _).2, rfl, by omega, by omega, ⟨?_⟩⟩
              rw [show (j + 1).toNat = j.toNat + 1 by omega]
              exact step_ne s c j.toNat r hb0 HS.out ht
            case measure => simp [intOf]; omega
          · have ht : ((c / 2 ^ j.toNat).tmod 2 != s % 2) = false := by assumption
            go_round
            case rel =>
              refine ⟨_, j + 1, rfl, by omega, by omega, rfl, by omega, by omega, ⟨?_⟩⟩
              rw [show (j + 1).toNat = j.toNat + 1 by omega]
              exact step_eq s c j.toNat r hb0 HS.out ht
            case measure => simp [intOf]; omega
        · go_wp2_with fail
          have e8 : j = 8 := by omega
          go_round
          case rel =>
            refine ⟨s, i + 1, rfl, hs0, hs1, rfl, by omega, by omega, ⟨?_⟩⟩
            rw [refFold_step l1 i _ hi0 hlt, ← HX.out, ← HC.out, HS.out, e8]
            rfl
          case measure => simp [intOf]; omega
    · go_wp2_with fail
      go_ret
      have e : i = l1.length := by omega
      subst e
      have hx := HX.out
      rw [Int.toNat_natCast, List.take_length] at hx
      exact ⟨ret_u32 (by rw [hx]), rfl⟩

/-! ### what is lent, and kept -/
def lent (l : List Int) : List Int := l ++ [77, 78, 79]
set_option maxHeartbeats 2000000 in
theorem lent_calls (A0 : Option Addr) (c0 : Nat) (l0 : List Int) (w : World) (hr0 : Kd.C (Kd.int .u8) w A0 l0.length l0) (hc0 : l0.length ≤ c0) (hl : l0.length ≤ 20000) :
    Calls Try.prog 11 #[.slice A0 l0.length c0] w fun e w' => ∃ A c, e = .returned (.slice A l0.length c) ∧ l0.length + 3 ≤ c ∧ Kd.C (Kd.int .u8) w' A (lent l0).length (lent l0) ∧ Below w.heap.size w w' := by
  have HR0 := Aside0.mk hr0
  have HC0 := Aside0.mk hc0
  have hcopy : chancerylow_CopyBytes.f l0 = some l0 := by
    unfold chancerylow_CopyBytes.f
    rw [if_pos (by simp; omega)]; simp
  have A2 := Aside0.mk hcopy
  clear hr0 hc0 hcopy
  go_enter Try.func11, Try.ntmps11
  go_wp2_with fail
  refine (chancerylow_CopyBytes.calls _ _ l0 l0 _ HR0.out HC0.out A2.out).mono ?_
  rintro e w1 ⟨v1, rfl, ho, hb⟩
  have HO := Aside0.mk ho
  have HB := Aside0.mk hb
  clear ho hb
  go_wp2_with (at_builtin; refine Kd.R_append_rows (Kd.int .u8) (w0 := w) w.heap.size rfl (.tmp 5) (.tmp 6) 25 5 (.int .u8 0) 1 rfl Try.underlying25 info5 rfl (by decide) (by omega) v1 l0 [77, 78, 79] _ _ _ (fun _ => True) (fun _ => False) rfl rfl ?aO ?aR (fun _ _ h => h) (fun _ h => h.elim) ?aF ?aB ?aS ?aL ?_; (case aR => exact lit_C _ [77, 78, 79] _ _ rfl (by decide)); (case aO => exact Kd.R_alloc HO.out _); (case aF => exact fun _ _ => trivial); (case aB => exact below_alloc HB.out _); (case aS => exact below_size (below_alloc HB.out _)); (case aL => simp; omega); intro v2 w2 ho hb hg hat; clear hg hat; have HO2 := Aside0.mk ho; have HB2 := Aside0.mk hb; clear ho hb; obtain ⟨A, c, e2⟩ := Kd.R_slice HO2.out; subst e2; have hcap : l0.length + 3 ≤ c := (by have := (Kd.R_reads' HO2.out).2.1; simpa using this); have hc1 : l0.length ≤ c := (by omega); have hc2 : (l0.length : Int) ≤ c := (by omega))
  go_ret
  exact ⟨A, c, rfl, by assumption, (Kd.R_reads' HO2.out).2.2, HB2.out⟩

theorem pre_C {w : World} {A : Option Addr} {l : List Int} (h : Kd.C (Kd.int .u8) w A (lent l).length (lent l)) : Kd.C (Kd.int .u8) w A l.length l := by
  have := Kd.C_take (m := l.length) h (by simp [lent])
  have e : (lent l).take l.length = l := by simp [lent]
  rw [e] at this
  exact this
set_option maxHeartbeats 2000000 in
theorem kept_calls (A0 : Option Addr) (c0 : Nat) (A1 : Option Addr) (c1 : Nat) (l : List Int) (w : World) (hr0 : Kd.C (Kd.int .u8) w A0 (lent l).length (lent l)) (hc0 : l.length + 3 ≤ c0) (hr1 : Kd.C (Kd.int .u8) w A1 l.length l) (hc1 : l.length ≤ c1) (hl : l.length ≤ 20000) :
    Calls Try.prog 14 #[.slice A0 l.length c0, .slice A1 l.length c1] w fun e w' => e = .returned (.bool true) ∧ Below w.heap.size w w' := by
  have HR0 := Aside0.mk hr0
  have HR1 := Aside0.mk hr1
  have HL0 : Kd.C (Kd.int .u8) w A0 l.length l := pre_C hr0
  have HL := Aside0.mk HL0
  have hs : chancerylow_SameBytes.f l l = some true := by unfold chancerylow_SameBytes.f; simp
  have HS := Aside0.mk hs
  have HC1 := Aside0.mk hc1
  clear hr0 hr1 HL0 hs hc1
  have hlen : (lent l).length = l.length + 3 := by simp [lent]
  have g1 : rd (lent l) (l.length : Int) = 77 := by simp [rd, lent]
  have g2 : rd (lent l) ((l.length : Int) + 1) = 78 := by
    unfold rd; rw [show ((l.length : Int) + 1).toNat = l.length + 1 by omega]; simp [lent]
  have g3 : rd (lent l) ((l.length : Int) + 2) = 79 := by
    unfold rd; rw [show ((l.length : Int) + 2).toNat = l.length + 2 by omega]; simp [lent]
  obtain ⟨ad, e0, hx1⟩ := Kd.at_int HR0.out (l.length : Int) (by omega) (by omega)
  obtain ⟨ad2, e02, hx2⟩ := Kd.at_int HR0.out ((l.length : Int) + 1) (by omega) (by omega)
  obtain ⟨ad3, e03, hx3⟩ := Kd.at_int HR0.out ((l.length : Int) + 2) (by omega) (by omega)
  subst e0
  obtain rfl : ad = ad2 := by injection e02
  obtain rfl : ad = ad3 := by injection e03
  rw [g1, Int.toNat_natCast] at hx1
  rw [g2, show ((l.length : Int) + 1).toNat = l.length + 1 by omega] at hx2
  rw [g3, show ((l.length : Int) + 2).toNat = l.length + 2 by omega] at hx3
  clear g1 g2 g3 e02 e03
  replace hx2 : w.cell? ⟨ad.block, ad.off + (l.length + 1), none⟩ = some (Value.int IntKind.u8 78) := by simpa [Addr.add] using hx2
  replace hx3 : w.cell? ⟨ad.block, ad.off + (l.length + 2), none⟩ = some (Value.int IntKind.u8 79) := by simpa [Addr.add] using hx3
  have HLen := Aside0.mk hlen
  clear hlen
  have hc01 : (l.length : Int) + 3 ≤ c0 := by omega
  go_enter Try.func14, Try.ntmps14
  go_wp2_with fail
  refine (chancerylow_SameBytes.calls _ _ l _ _ l true _ HL.out (by omega) HR1.out HC1.out HS.out).mono ?_
  rintro e w' ⟨rfl, ⟨n, rfl⟩⟩
  go_wp2_with fail
  go_ret
  exact ⟨rfl, (Drawn0.mk ⟨n, rfl⟩).below⟩
end Go.Proofs.Ytipgllkapphimaa.D

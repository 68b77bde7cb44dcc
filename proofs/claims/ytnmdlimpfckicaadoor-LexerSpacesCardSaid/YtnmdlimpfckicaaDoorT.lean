/- lexer.text and lexer.octets: what stands between quotes, by a strings.Builder. -/
import Derived.Test.YtnmdlimpfckicaaDoorS
import Derived.Test.YtnmdlimpfckicaaDoorBl
import Derived.Lib.IndexBytes
import Derived.Lib.IndexLaws
import Derived.Deep.QuietTactic
import Derived.BigQuiet
import Derived.IntWalk
namespace Go.Proofs.YtnmdlimpfckicaaDoor.T
open Go.RowKit Go.Proofs.YtnmdlimpfckicaaDoor.Q Go.Proofs.YtnmdlimpfckicaaDoor.S Go.Proofs.YtnmdlimpfckicaaDoor.Bl Go.Proofs.YtnmdlimpfckicaaDoorW.PrintWords Go.Proofs.YtnmdlimpfckicaaDoorW.PrintLast Go.Proofs.YtnmdlimpfckicaaDoorW.PrintMore

/-- What a quoted text says, from place i on; acc: what it has said. -/
def txt (acc : List UInt8) : List UInt8 → Nat → ByteArray × Int
  | [], _ => (⟨#[]⟩, 0)
  | c :: r, i =>
    if c = 39 then
      match r with
      | [] => if 200 < acc.length then (⟨#[]⟩, 0) else (⟨acc.toArray⟩, i + 1)
      | d :: q => if d = 39 then txt (acc ++ [39]) q (i + 2) else if 200 < acc.length then (⟨#[]⟩, 0) else (⟨acc.toArray⟩, i + 1)
    else txt (acc ++ [c]) r (i + 1)
def lexer_text.f (a0 : ByteArray) : Option (ByteArray × Int) := if a0.size ≤ 140737488355000 then some (txt [] (a0.data.toList.drop 1) 1) else none

theorem drop_at (a0 : ByteArray) (i : Nat) (h : i < a0.size) : a0.data.toList.drop i = a0[i] :: a0.data.toList.drop (i + 1) := by
  have h' : i < a0.data.toList.length := by simpa using h
  rw [List.drop_eq_getElem_cons h']; rfl
theorem txt_plain (acc : List UInt8) (a0 : ByteArray) (i : Nat) (h : i < a0.size) (hc : ((a0[i].toNat : Int) == 39) = false) : txt acc (a0.data.toList.drop i) i = txt (acc ++ [a0[i]]) (a0.data.toList.drop (i + 1)) (i + 1) := by
  rw [drop_at a0 i h]
  have : ¬ a0[i] = 39 := by intro e; rw [e] at hc; simp at hc
  conv => lhs; unfold txt
  rw [if_neg this]
theorem txt_two (acc : List UInt8) (a0 : ByteArray) (i : Nat) (h : i + 1 < a0.size) (hc : ((a0[i].toNat : Int) == 39) = true) (hd : ((a0[i + 1].toNat : Int) == 39) = true) : txt acc (a0.data.toList.drop i) i = txt (acc ++ [a0[i + 1]]) (a0.data.toList.drop (i + 2)) (i + 2) := by
  rw [drop_at a0 i (by omega), drop_at a0 (i + 1) h]
  have e1 : a0[i] = 39 := by
    rw [beq_iff_eq] at hc
    apply UInt8.toNat.inj
    simpa using (by exact_mod_cast hc : a0[i].toNat = 39)
  have e2 : a0[i + 1] = 39 := by
    rw [beq_iff_eq] at hd
    apply UInt8.toNat.inj
    simpa using (by exact_mod_cast hd : a0[i + 1].toNat = 39)
  conv => lhs; unfold txt
  rw [if_pos e1]
  simp only
  rw [if_pos e2, e2]
theorem txt_end (acc : List UInt8) (a0 : ByteArray) (i : Nat) (h : i < a0.size) (hc : ((a0[i].toNat : Int) == 39) = true) (hd : ∀ h2 : i + 1 < a0.size, ((a0[i + 1].toNat : Int) == 39) = false) :
    txt acc (a0.data.toList.drop i) i = if 200 < acc.length then (⟨#[]⟩, 0) else (⟨acc.toArray⟩, (i : Int) + 1) := by
  rw [drop_at a0 i h]
  have e1 : a0[i] = 39 := by
    rw [beq_iff_eq] at hc
    apply UInt8.toNat.inj
    simpa using (by exact_mod_cast hc : a0[i].toNat = 39)
  by_cases h2 : i + 1 < a0.size
  · rw [drop_at a0 (i + 1) h2]
    have : ¬ a0[i + 1] = 39 := by intro e; have := hd h2; rw [e] at this; simp at this
    conv => lhs; unfold txt
    rw [if_pos e1]
    simp only
    rw [if_neg this]
  · rw [List.drop_eq_nil_of_le (by simp; omega)]
    conv => lhs; unfold txt
    rw [if_pos e1]
theorem bcells_snoc (l : List UInt8) (c : UInt8) : Lib.byteCells (l ++ [c]) = Lib.byteCells l ++ [.int .u8 (c.toNat : Int)] := by simp [Lib.byteCells]
theorem bcells_len (l : List UInt8) : (Lib.byteCells l).length = l.length := by simp [Lib.byteCells]
theorem ret_si {a b : ByteArray} {m n : Int} (h : (a, m) = (b, n)) : Ending.returned (.tuple #[.string a, .int .i64 m]) = .returned (.tuple #[.string b, .int .i64 n]) := by
  injection h with h1 h2; rw [h1, h2]
theorem fresh_builder (w : World) : Lib.IsBuilder 50 5 w.heap.size w.heap.size (Lib.byteCells []) (w.alloc (.cells #[.pointer none, .slice none 0 0] 50)) :=
  .inl ⟨Nat.le_refl _, _, heap_alloc_new _ _, own_nil _ _ _ _, by simp [Value.ownBlock]⟩

set_option maxHeartbeats 8000000 in
theorem lexer_text.calls (a0 : ByteArray) (r1 : ByteArray) (r2 : Int) (w : World) (h : lexer_text.f a0 = some (r1, r2)) :
    Calls Tryd.prog 18 #[.string a0] w fun e w' => e = .returned (.tuple #[.string r1, .int .i64 r2]) ∧ Below w.heap.size w w' := by
  unfold lexer_text.f at h
  by_cases hs : a0.size ≤ 140737488355000
  case neg => rw [if_neg hs] at h; cases h
  rw [if_pos hs] at h
  have hr := Option.some.inj h
  clear h
  have HR := Aside0.mk hr
  clear hr
  go_enter Tryd.func18, Tryd.ntmps18
  go_wp2_with fail
  go_loopw [5] (fun v wr => ∃ (i : Nat) (acc : List UInt8), v = .int .i64 i ∧ i ≤ a0.size + 1 ∧ acc.length ≤ i ∧ Aside0 (txt acc (a0.data.toList.drop i) i = (r1, r2)) ∧ Aside0 (Lib.IsBuilder 50 5 w.heap.size w.heap.size (Lib.byteCells acc) wr) ∧ Aside0 (Below w.heap.size w wr)) (fun v _ => a0.size + 1 - (intOf v).toNat)
  case atStart => exact ⟨1, [], rfl, by omega, by simp, HR, ⟨fresh_builder w⟩, ⟨(Below.refl _ _).alloc (Nat.le_refl _) _⟩⟩
  case round =>
    obtain ⟨i, acc, rfl, hi, ha, HT, HBu, HBe⟩ := hrel
    by_cases hlt : i < a0.size
    · cases hc : ((a0[i].toNat : Int) == 39) with
      | false =>
        have ht := txt_plain acc a0 i hlt hc
        rw [HT.out] at ht
        have HT2 := Aside0.mk ht.symm
        clear ht
        go_wp2_with fail
        refine (writeByte w.heap.size w.heap.size (Lib.byteCells acc) _ _ HBu.out (by rw [bcells_len]; omega) HBe.out.size).mono ?_
        rintro e w2 ⟨rfl, hb2, hbe2⟩
        replace hb2 := Aside0.mk hb2
        replace hbe2 := Aside0.mk hbe2
        go_wp2_with fail
        go_roundw
        case rel => exact ⟨i + 1, acc ++ [a0[i]], by go_num, by omega, by simp; omega, HT2, ⟨.inr (by rw [bcells_snoc]; exact hb2.out)⟩, ⟨HBe.out.trans hbe2.out⟩⟩
        case measure => simp [intOf]; omega
      | true =>
        by_cases h2 : ∃ h2 : i + 1 < a0.size, ((a0[i + 1].toNat : Int) == 39) = true
        · obtain ⟨h2, hd⟩ := h2
          have ht := txt_two acc a0 i h2 hc hd
          rw [HT.out] at ht
          have HT2 := Aside0.mk ht.symm
          clear ht
          have hne : ((i : Int) + 1 == (a0.size : Int)) = false := beq_eq_false_iff_ne.2 (by omega)
          have hd2 : ((a0[i + 1].toNat : Int) != 39) = false := by rw [bne, hd]; rfl
          go_wp2_with fail
          refine (writeByte w.heap.size w.heap.size (Lib.byteCells acc) _ _ HBu.out (by rw [bcells_len]; omega) HBe.out.size).mono ?_
          rintro e w2 ⟨rfl, hb2, hbe2⟩
          replace hb2 := Aside0.mk hb2
          replace hbe2 := Aside0.mk hbe2
          go_wp2_with fail
          go_roundw
          case rel => exact ⟨i + 2, acc ++ [a0[i + 1]], by go_num, by omega, by simp; omega, HT2, ⟨.inr (by rw [bcells_snoc]; exact hb2.out)⟩, ⟨HBe.out.trans hbe2.out⟩⟩
          case measure => simp [intOf]; omega
        · have hd : ∀ h2 : i + 1 < a0.size, ((a0[i + 1].toNat : Int) == 39) = false := by
            intro h3
            cases hx : ((a0[i + 1].toNat : Int) == 39) with
            | false => rfl
            | true => exact absurd ⟨h3, hx⟩ h2
          have ht := txt_end acc a0 i hlt hc hd
          rw [HT.out] at ht
          have HT2 := Aside0.mk ht.symm
          clear ht
          by_cases h3 : i + 1 < a0.size
          · have hne : ((i : Int) + 1 == (a0.size : Int)) = false := beq_eq_false_iff_ne.2 (by omega)
            have hd2 : ((a0[i + 1].toNat : Int) != 39) = true := by rw [bne, hd h3]; rfl
            by_cases h200 : 200 < acc.length
            · go_wp2_with fail
              refine (Tryd.Builder_Len w.heap.size w.heap.size (Lib.byteCells acc) _ HBu.out).mono ?_
              rw [bcells_len]
              rintro e w2 ⟨rfl, rfl⟩
              go_wp2_with fail
              go_ret2
              have ht := HT2.out
              rw [if_pos h200] at ht
              exact ⟨ret_si ht, HBe.out⟩
            · go_wp2_with fail
              refine (Tryd.Builder_Len w.heap.size w.heap.size (Lib.byteCells acc) _ HBu.out).mono ?_
              rw [bcells_len]
              rintro e w2 ⟨rfl, rfl⟩
              go_wp2_with fail
              refine (Tryd.Builder_String_any w.heap.size w.heap.size acc _ HBu.out HBe.out.size).mono ?_
              rintro e w3 ⟨rfl, hb3⟩
              replace hb3 := Aside0.mk hb3
              go_wp2_with fail
              go_ret2
              have ht := HT2.out
              rw [if_neg h200] at ht
              exact ⟨ret_si ht, HBe.out.trans hb3.out⟩
          · have hne : ((i : Int) + 1 == (a0.size : Int)) = true := beq_iff_eq.2 (by omega)
            by_cases h200 : 200 < acc.length
            · go_wp2_with fail
              refine (Tryd.Builder_Len w.heap.size w.heap.size (Lib.byteCells acc) _ HBu.out).mono ?_
              rw [bcells_len]
              rintro e w2 ⟨rfl, rfl⟩
              go_wp2_with fail
              go_ret2
              have ht := HT2.out
              rw [if_pos h200] at ht
              exact ⟨ret_si ht, HBe.out⟩
            · go_wp2_with fail
              refine (Tryd.Builder_Len w.heap.size w.heap.size (Lib.byteCells acc) _ HBu.out).mono ?_
              rw [bcells_len]
              rintro e w2 ⟨rfl, rfl⟩
              go_wp2_with fail
              refine (Tryd.Builder_String_any w.heap.size w.heap.size acc _ HBu.out HBe.out.size).mono ?_
              rintro e w3 ⟨rfl, hb3⟩
              replace hb3 := Aside0.mk hb3
              go_wp2_with fail
              go_ret2
              have ht := HT2.out
              rw [if_neg h200] at ht
              exact ⟨ret_si ht, HBe.out.trans hb3.out⟩
    · go_wp2_with fail
      go_ret2
      have ht := HT.out
      rw [List.drop_eq_nil_of_le (by simp; omega)] at ht
      exact ⟨ret_si ht, HBe.out⟩

/-! ### octets -/
def hexDigits : ByteArray := ⟨#[48, 49, 50, 51, 52, 53, 54, 55, 56, 57, 97, 98, 99, 100, 101, 102]⟩
def hexv (c : UInt8) : Int := Lib.indexByte hexDigits.data.toList c
def two (a b : UInt8) : UInt8 := ((bits .or .i64 (hexv a * 16) (hexv b)) % 256).toNat.toUInt8
def octs : List UInt8 → Option (List UInt8)
  | a :: b :: r => if hexv a < 0 ∨ hexv b < 0 then none else (octs r).map (two a b :: ·)
  | _ => some []
def octRes (o : Option (List UInt8)) (e : Int) : ByteArray × Int :=
  match o with
  | none => (⟨#[]⟩, 0)
  | some l => (⟨l.toArray⟩, e + 3)
def octF (a0 : ByteArray) : ByteArray × Int :=
  if Lib.indexByte (a0.data.toList.drop 2) 39 < 0 ∨ Lib.indexByte (a0.data.toList.drop 2) 39 % 2 ≠ 0 ∨ 400 < Lib.indexByte (a0.data.toList.drop 2) 39 then (⟨#[]⟩, 0)
  else octRes (octs ((a0.data.toList.drop 2).take (Lib.indexByte (a0.data.toList.drop 2) 39).toNat)) (Lib.indexByte (a0.data.toList.drop 2) 39)
def lexer_octets.f (a0 : ByteArray) : Option (ByteArray × Int) := if 2 ≤ a0.size ∧ a0.size ≤ 140737488355000 then some (octF a0) else none
theorem octs_none (l : List UInt8) (a b : UInt8) (r : List UInt8) (hl : l = a :: b :: r) (h : hexv a < 0 ∨ hexv b < 0) : octs l = none := by
  subst hl; unfold octs; rw [if_pos h]
theorem octs_some (l : List UInt8) (a b : UInt8) (r : List UInt8) (hl : l = a :: b :: r) (h : ¬ (hexv a < 0 ∨ hexv b < 0)) : octs l = (octs r).map (two a b :: ·) := by
  subst hl; conv => lhs; unfold octs
  rw [if_neg h]
theorem take_two (a0 : ByteArray) (e i : Nat) (he : 2 + e < a0.size) (hi : 2 * i + 1 < e) :
    ((a0.data.toList.drop 2).take e).drop (2 * i) = a0[2 + 2 * i]'(by omega) :: a0[3 + 2 * i]'(by omega) :: ((a0.data.toList.drop 2).take e).drop (2 * (i + 1)) := by
  obtain ⟨L, hL⟩ : ∃ L, L = (a0.data.toList.drop 2).take e := ⟨_, rfl⟩
  have hl : L.length = e := by rw [hL]; simp; omega
  have e1 : L[2 * i]'(by omega) = a0[2 + 2 * i]'(by omega) := by
    subst hL; simp; rfl
  have e2 : L[2 * i + 1]'(by omega) = a0[3 + 2 * i]'(by omega) := by
    subst hL
    simp only [List.getElem_take, List.getElem_drop, show 2 + (2 * i + 1) = 3 + 2 * i by omega]; rfl
  rw [← hL, List.drop_eq_getElem_cons (show 2 * i < L.length by omega), List.drop_eq_getElem_cons (show 2 * i + 1 < L.length by omega), e1, e2]
  rfl
theorem two_val (a b : UInt8) : ((two a b).toNat : Int) = bits .or .i64 (hexv a * 16) (hexv b) % 256 := by
  unfold two
  generalize bits .or .i64 (hexv a * 16) (hexv b) = z
  rw [Nat.toUInt8, UInt8.toNat_ofNat']
  omega
theorem indexByte_lt (l : List UInt8) (c : UInt8) : Lib.indexByte l c < l.length := by
  induction l with
  | nil => show (-1 : Int) < 0; decide
  | cons b l ih =>
    unfold Lib.indexByte
    simp only [List.length_cons]
    split
    · omega
    · split
      · omega
      · omega
theorem hexv_le (c : UInt8) : -1 ≤ hexv c ∧ hexv c ≤ 15 := by
  refine ⟨Lib.indexByte_ge _ _, ?_⟩
  have := indexByte_lt hexDigits.data.toList c
  have e : hexDigits.data.toList.length = 16 := rfl
  unfold hexv
  omega
set_option maxHeartbeats 8000000 in
theorem lexer_octets.calls (a0 : ByteArray) (r1 : ByteArray) (r2 : Int) (w : World) (h : lexer_octets.f a0 = some (r1, r2)) :
    Calls Tryd.prog 17 #[.string a0] w fun e w' => e = .returned (.tuple #[.string r1, .int .i64 r2]) ∧ Below w.heap.size w w' := by
  unfold lexer_octets.f at h
  by_cases hs : 2 ≤ a0.size ∧ a0.size ≤ 140737488355000
  case neg => rw [if_neg hs] at h; cases h
  rw [if_pos hs] at h
  have hr := Option.some.inj h
  clear h
  obtain ⟨hs2, hs1⟩ := hs
  have hs2' : (2 : Int) ≤ a0.size := by omega
  unfold octF at hr
  obtain ⟨e0, he0⟩ : ∃ e0, e0 = Lib.indexByte (a0.data.toList.drop 2) 39 := ⟨_, rfl⟩
  rw [← he0] at hr
  have hge : -1 ≤ e0 := by rw [he0]; exact Lib.indexByte_ge _ _
  have hlt : 0 ≤ e0 → e0 + 2 < a0.size := by
    intro h0
    obtain ⟨o, rfl⟩ := Int.eq_ofNat_of_zero_le h0
    have := (Lib.indexByte_some he0.symm).1
    have h3 := (List.getElem?_eq_some_iff.1 this).1
    simp at h3
    omega
  have HR := Aside0.mk hr
  have HE := Aside0.mk he0
  clear hr he0
  have HI : Aside0 (∀ w, Calls Tryd.prog 16 #[.string (a0.extract 2 a0.size), .int .u8 39] w fun e w' => e = .returned (.int .i64 e0) ∧ w = w') := ⟨by
    intro w
    refine (Tryd.strings_IndexByte _ _ w).mono ?_
    rintro e w' ⟨rfl, rfl⟩
    rw [Lib.extract_to_end, HE.out]
    exact ⟨rfl, rfl⟩⟩
  by_cases hbad : e0 < 0 ∨ e0 % 2 ≠ 0 ∨ 400 < e0
  · have hr := HR.out
    rw [if_pos hbad] at hr
    have HR2 := Aside0.mk hr
    clear hr
    rcases (show e0 < 0 ∨ (0 ≤ e0 ∧ e0 % 2 ≠ 0) ∨ (0 ≤ e0 ∧ e0 % 2 = 0 ∧ 400 < e0) by omega) with hb | ⟨h0, hb⟩ | ⟨h0, hb, hc⟩
    · go_enter Tryd.func17, Tryd.ntmps17
      go_wp2_with fail
      refine (HI.out _).mono ?_
      rintro e w' ⟨rfl, rfl⟩
      go_wp2_with fail
      go_ret2
      exact ⟨ret_si HR2.out, Below.refl _ _⟩
    · have hb2 : (e0 % 2 != 0) = true := by rw [bne_iff_ne]; exact hb
      clear hb
      go_enter Tryd.func17, Tryd.ntmps17
      go_wp2_with fail
      refine (HI.out _).mono ?_
      rintro e w' ⟨rfl, rfl⟩
      go_wp2_with fail
      go_ret2
      exact ⟨ret_si HR2.out, Below.refl _ _⟩
    · have hb2 : (e0 % 2 != 0) = false := by rw [bne_eq_false_iff_eq]; exact hb
      have HB := Aside0.mk hb
      clear hb
      go_enter Tryd.func17, Tryd.ntmps17
      go_wp2_with fail
      refine (HI.out _).mono ?_
      rintro e w' ⟨rfl, rfl⟩
      go_wp2_with fail
      go_ret2
      exact ⟨ret_si HR2.out, Below.refl _ _⟩
  · have hr := HR.out
    rw [if_neg hbad] at hr
    have HR2 := Aside0.mk hr
    clear hr
    have h0 : 0 ≤ e0 := by omega
    have h2 : e0 % 2 = 0 := by omega
    have h4 : e0 ≤ 400 := by omega
    have h5 := hlt h0
    clear hbad hlt HR hge
    obtain ⟨q, rfl⟩ : ∃ q : Nat, e0 = ((2 * q : Nat) : Int) := ⟨(e0 / 2).toNat, by omega⟩
    have hb2 : (((2 * q : Nat) : Int) % 2 != 0) = false := by rw [bne_eq_false_iff_eq]; omega
    have hq : ((2 * q : Nat) : Int) / 2 = (q : Int) := by omega
    have HQ := Aside0.mk hq
    clear h2 hq
    go_enter Tryd.func17, Tryd.ntmps17
    go_wp2_with fail
    refine (HI.out _).mono ?_
    rintro e w' ⟨rfl, rfl⟩
    go_wp2_with fail
    go_loopw [25] (fun v wr => ∃ (i : Nat) (acc : List UInt8), v = .int .i64 i ∧ i ≤ q ∧ acc.length ≤ i ∧ Aside0 (octRes ((octs (((a0.data.toList.drop 2).take (2 * q)).drop (2 * i))).map (acc ++ ·)) ((2 * q : Nat) : Int) = (r1, r2)) ∧ Aside0 (Lib.IsBuilder 50 5 w.heap.size w.heap.size (Lib.byteCells acc) wr) ∧ Aside0 (Below w.heap.size w wr)) (fun v _ => q - (intOf v).toNat)
    case atStart => exact ⟨0, [], rfl, by omega, by simp, ⟨by have := HR2.out; rw [Int.toNat_natCast] at this; simpa using this⟩, ⟨fresh_builder w⟩, ⟨(Below.refl _ _).alloc (Nat.le_refl _) _⟩⟩
    case round =>
      obtain ⟨i, acc, rfl, hi, ha, HT, HBu, HBe⟩ := hrel
      by_cases hlt : i < q
      · have hx := take_two a0 (2 * q) i (by omega) (by omega)
        obtain ⟨ca, hca⟩ : ∃ c, c = a0[2 + 2 * i]'(by omega) := ⟨_, rfl⟩
        obtain ⟨cb, hcb⟩ : ∃ c, c = a0[3 + 2 * i]'(by omega) := ⟨_, rfl⟩
        rw [← hca, ← hcb] at hx
        have HX := Aside0.mk hx
        have HA := Aside0.mk hca
        have HB := Aside0.mk hcb
        clear hx hca hcb
        have HI2 : Aside0 (∀ (c : UInt8) w, Calls Tryd.prog 16 #[.string ⟨#[48, 49, 50, 51, 52, 53, 54, 55, 56, 57, 97, 98, 99, 100, 101, 102]⟩, .int .u8 (c.toNat : Int)] w fun e w' => e = .returned (.int .i64 (hexv c)) ∧ w' = w) := ⟨by
          intro c w
          refine (Tryd.strings_IndexByte _ _ w).mono ?_
          rintro e w' ⟨rfl, rfl⟩
          refine ⟨?_, rfl⟩
          unfold hexv hexDigits
          simp⟩
        have w1 : IntKind.i64.wrap (2 * (i : Int)) = 2 * (i : Int) := IntWalk.i64_in _ (by omega)
        have w2 : IntKind.i64.wrap (2 + 2 * (i : Int)) = 2 + 2 * (i : Int) := IntWalk.i64_in _ (by omega)
        have w3 : IntKind.i64.wrap (3 + 2 * (i : Int)) = 3 + 2 * (i : Int) := IntWalk.i64_in _ (by omega)
        have p2 : 0 ≤ 2 + 2 * (i : Int) := by omega
        have p3 : 0 ≤ 3 + 2 * (i : Int) := by omega
        have t2 : (2 + 2 * (i : Int)).toNat = 2 + 2 * i := by omega
        have t3 : (3 + 2 * (i : Int)).toNat = 3 + 2 * i := by omega
        have l2 : 2 + 2 * (i : Int) < (a0.size : Int) := by omega
        have l3 : 3 + 2 * (i : Int) < (a0.size : Int) := by omega
        have k2 : 2 + 2 * i < a0.size := by omega
        have k3 : 3 + 2 * i < a0.size := by omega
        have u1 := hexv_le (a0[2 + 2 * i]'k2)
        have u2 := hexv_le (a0[3 + 2 * i]'k3)
        obtain ⟨u1a, u1b⟩ := u1
        obtain ⟨u2a, u2b⟩ := u2
        by_cases hbad : hexv (a0[2 + 2 * i]'k2) < 0 ∨ hexv (a0[3 + 2 * i]'k3) < 0
        · have ho := octs_none _ ca cb _ HX.out (by rw [HA.out, HB.out]; exact hbad)
          have HO := Aside0.mk ho
          clear ho
          rcases (show hexv (a0[2 + 2 * i]'k2) < 0 ∨ (0 ≤ hexv (a0[2 + 2 * i]'k2) ∧ hexv (a0[3 + 2 * i]'k3) < 0) by omega) with hb | ⟨hb, hb'⟩
          all_goals
            clear hbad
            go_wp2_with fail
            go_quiet ((go_at_call 16; exact Calls.quiet_of_same (HI2.out _ _)))
            go_wp2_with fail
            go_ret2
            have ht := HT.out
            rw [HO.out] at ht
            exact ⟨ret_si ht, pw_below_drewN HBe.out _⟩
        · have ho := octs_some _ ca cb _ HX.out (by rw [HA.out, HB.out]; exact hbad)
          have HO := Aside0.mk ho
          have hb : 0 ≤ hexv (a0[2 + 2 * i]'k2) := by omega
          have hb' : 0 ≤ hexv (a0[3 + 2 * i]'k3) := by omega
          clear ho hbad
          go_wp2_with fail
          go_quiet ((go_at_call 16; exact Calls.quiet_of_same (HI2.out _ _)))
          clear w1 w2 w3
          go_wp2_with fail
          have hbu : Lib.IsBuilder 50 5 w.heap.size w.heap.size (Lib.byteCells acc) (wr.drewN nq) := HBu.out
          have hbe : Below w.heap.size w (wr.drewN nq) := pw_below_drewN HBe.out _
          have HBu1 := Aside0.mk hbu
          have HBe1 := Aside0.mk hbe
          clear hbu hbe
          refine (writeByte w.heap.size w.heap.size (Lib.byteCells acc) _ _ HBu1.out (by rw [bcells_len]; omega) HBe1.out.size).mono ?_
          rintro e w2' ⟨rfl, hb2', hbe2⟩
          replace hb2' := Aside0.mk hb2'
          replace hbe2 := Aside0.mk hbe2
          go_wp2_with fail
          go_roundw
          case rel =>
            refine ⟨i + 1, acc ++ [two ca cb], by go_num, by omega, by simp; omega, ⟨?_⟩, ⟨.inr ?_⟩, ⟨HBe1.out.trans hbe2.out⟩⟩
            · have ht := HT.out
              rw [HO.out, Option.map_map] at ht
              rw [← ht]
              congr 2
              funext l
              simp
            · rw [bcells_snoc, two_val, HA.out, HB.out]
              exact hb2'.out
          case measure => simp [intOf]; omega
      · go_wp2_with fail
        refine (Tryd.Builder_String_any w.heap.size w.heap.size acc _ HBu.out HBe.out.size).mono ?_
        rintro e w3 ⟨rfl, hb3⟩
        replace hb3 := Aside0.mk hb3
        go_wp2_with fail
        go_ret2
        have e : i = q := by omega
        subst e
        have ht := HT.out
        rw [List.drop_eq_nil_of_le (by simp; omega)] at ht
        refine ⟨ret_si ?_, HBe.out.trans hb3.out⟩
        rw [← ht]
        simp [octs, octRes]
end Go.Proofs.YtnmdlimpfckicaaDoor.T

/- The plain half of SumsTells: the reference's sums are the program's. -/
import Derived.Test.YtipgllkapphimaaD
namespace Go.Proofs.Ytipgllkapphimaa.E
open Go.RowKit Go.Proofs.Ytipgllkapphimaa.A Go.Proofs.Ytipgllkapphimaa.B Go.Proofs.Ytipgllkapphimaa.C Go.Proofs.Ytipgllkapphimaa.D Go.Proofs.Ytipgllkapphimaa.L Go.Proofs.Ytipgllkapphimaa.Q Go.Proofs.YtipgllkapphimaaW.PrintWords Go.Proofs.YtipgllkapphimaaW.PrintLast Go.Proofs.YtipgllkapphimaaW.PrintMore

theorem num_half (x : W32) : num x / (2 : Int) = num (x >>> 1) := by
  unfold num
  rw [BitVec.toNat_ushiftRight, Nat.shiftRight_eq_div_pow]
  omega
theorem num_mod (x : W32) : num x % 2 = if x.getLsbD 0 then 1 else 0 := by
  unfold num
  have : x.getLsbD 0 = decide (x.toNat % 2 = 1) := by
    rw [BitVec.getLsbD, Nat.testBit_zero]
  rw [this]
  by_cases h : x.toNat % 2 = 1
  · simp [h]; omega
  · simp [h]; omega
theorem bitStep_num (x : W32) (b : Int) (hb : b = 0 ∨ b = 1) : bitStep (num x) b = num (T (x ^^^ wrd b)) := by
  have e3 : (3988292384 : Int) = num P := by decide
  have hs : (x ^^^ wrd b) >>> 1 = x >>> 1 := by
    rw [BitVec.ushiftRight_xor_distrib]
    have : wrd b >>> 1 = 0#32 := by rcases hb with rfl | rfl <;> decide
    rw [this, BitVec.xor_zero]
  unfold bitStep T
  rw [num_half, num_mod, hs, BitVec.getLsbD_xor, e3, bits_xor]
  rcases hb with rfl | rfl
  · have : (wrd 0).getLsbD 0 = false := by decide
    rw [this]
    cases x.getLsbD 0 <;> simp
  · have : (wrd 1).getLsbD 0 = true := by decide
    rw [this]
    cases x.getLsbD 0 <;> simp
theorem wrd_split (c : Int) (h0 : 0 ≤ c) (h1 : c < 256) : wrd c = wrd (c % 2) ^^^ (wrd (c / 2) <<< 1) := by
  have : ∀ n : Fin 256, wrd (n.val : Int) = wrd ((n.val : Int) % 2) ^^^ (wrd ((n.val : Int) / 2) <<< 1) := by decide +kernel
  have := this ⟨c.toNat, by omega⟩
  simpa [Int.toNat_of_nonneg h0] using this
theorem wrd_top (c : Int) (h0 : 0 ≤ c) (h1 : c < 256) : (wrd c).getLsbD 31 = false := small_bit _ 8 31 (wrd_byte c h0 h1) (by decide)
theorem bitsTo_num (x : W32) (c : Int) (h0 : 0 ≤ c) (h1 : c < 256) (j : Nat) : ∃ y : W32, bitsTo j (num x) c = num y ∧ Tn j (x ^^^ wrd c) = y ^^^ wrd (c / 2 ^ j) := by
  induction j with
  | zero => exact ⟨x, rfl, by simp [Tn]⟩
  | succ j ih =>
    obtain ⟨y, e1, e2⟩ := ih
    have hq0 : 0 ≤ c / 2 ^ j := Int.ediv_nonneg h0 (Int.le_of_lt (Int.pow_pos (by decide)))
    have hq1 : c / 2 ^ j < 256 := Int.lt_of_le_of_lt (Int.ediv_le_self _ h0) h1
    have hb : c / 2 ^ j % 2 = 0 ∨ c / 2 ^ j % 2 = 1 := by omega
    refine ⟨T (y ^^^ wrd (c / 2 ^ j % 2)), ?_, ?_⟩
    · simp only [bitsTo]
      rw [e1, bitStep_num _ _ hb]
    · simp only [Tn]
      rw [e2, wrd_split _ hq0 hq1, ← BitVec.xor_assoc, T_xor, T_shl _ (wrd_top _ (by omega) (by omega))]
      rw [Int.pow_succ, ← Int.ediv_ediv_of_nonneg (Int.le_of_lt (Int.pow_pos (by decide)))]
theorem bits8_num (x : W32) (c : Int) (h0 : 0 ≤ c) (h1 : c < 256) : bitsTo 8 (num x) c = num (L.step x (wrd c)) := by
  obtain ⟨y, e1, e2⟩ := bitsTo_num x c h0 h1 8
  rw [e1]
  unfold L.step
  rw [e2]
  have : c / 2 ^ 8 = 0 := by omega
  rw [this]
  have : wrd 0 = 0#32 := by decide
  rw [this, BitVec.xor_zero]
theorem refFold_num (l : List Int) (hl : Bytes l) (x : W32) : refFold l (num x) = num (F (l.map wrd) x) := by
  induction l generalizing x with
  | nil => rfl
  | cons c l ih =>
    have hc := hl c (by simp)
    show refFold l (bitsTo 8 (num x) c) = num (F (l.map wrd) (L.step x (wrd c)))
    rw [bits8_num x c hc.1 hc.2]
    exact ih (fun d hd => hl d (by simp [hd])) _
theorem num_not (x : W32) : 4294967295 - num x = num (ones ^^^ x) := by
  have : ones ^^^ x = ~~~x := by
    have : ones = BitVec.allOnes 32 := by decide
    rw [this, BitVec.allOnes_xor]
  rw [this]
  unfold num
  rw [BitVec.toNat_not]
  have := x.isLt
  omega
theorem ref_same (l : List Int) (hl : Bytes l) (a : Int) (h0 : 0 ≤ a) (h1 : a < 4294967296) : sums_More.f a l = some (4294967295 - refFold l (4294967295 - a)) := by
  obtain ⟨x, rfl⟩ : ∃ x, a = num x := ⟨wrd a, (num_wrd a h0 h1).symm⟩
  rw [more_num l hl, num_not, refFold_num l hl, num_not]
  rfl

/-! ### Fletcher's two sums -/
def fl : List Int → Int → Int → Int
  | [], one, two => 65536 * two + one
  | [x], one, two => 65536 * ((two + (one + x) % 65535) % 65535) + (one + x) % 65535
  | x :: y :: l, one, two => fl l ((one + (x + 256 * y)) % 65535) ((two + (one + (x + 256 * y)) % 65535) % 65535)
theorem or_add (x y : Int) (k : Nat) (hx0 : 0 ≤ x) (hx : x < 2 ^ k) (hy0 : 0 ≤ y) (hk : y * 2 ^ k + x < 4294967296) : bits .or .u32 x (y * 2 ^ k) = y * 2 ^ k + x ∧ bits .or .u32 (y * 2 ^ k) x = y * 2 ^ k + x := by
  obtain ⟨m, rfl⟩ := Int.eq_ofNat_of_zero_le hx0
  obtain ⟨n, rfl⟩ := Int.eq_ofNat_of_zero_le hy0
  have hm : m < 2 ^ k := by exact_mod_cast hx
  have c : ((n : Int) * 2 ^ k) = ((n * 2 ^ k : Nat) : Int) := by push_cast; rfl
  have hs : n * 2 ^ k + m < 4294967296 := by rw [c] at hk; omega
  have e : n * 2 ^ k ||| m = n * 2 ^ k + m := by
    have := Nat.shiftLeft_add_eq_or_of_lt hm n
    rw [Nat.shiftLeft_eq] at this
    exact this.symm
  have e' : m ||| n * 2 ^ k = n * 2 ^ k + m := (Nat.or_comm _ _).trans e
  rw [c]
  unfold bits
  constructor
  · show IntKind.u32.wrap ((BitVec.ofInt 32 (m : Int) ||| BitVec.ofInt 32 ((n * 2 ^ k : Nat) : Int)).toNat : Int) = _
    rw [BitVec.ofInt_natCast, BitVec.ofInt_natCast, BitVec.toNat_or, BitVec.toNat_ofNat, BitVec.toNat_ofNat, Nat.mod_eq_of_lt (by omega), Nat.mod_eq_of_lt (by omega), e']
    rw [wrap_nat _ hs, Int.natCast_add]
  · show IntKind.u32.wrap ((BitVec.ofInt 32 ((n * 2 ^ k : Nat) : Int) ||| BitVec.ofInt 32 (m : Int)).toNat : Int) = _
    rw [BitVec.ofInt_natCast, BitVec.ofInt_natCast, BitVec.toNat_or, BitVec.toNat_ofNat, BitVec.toNat_ofNat, Nat.mod_eq_of_lt (by omega), Nat.mod_eq_of_lt (by omega), e]
    rw [wrap_nat _ hs, Int.natCast_add]
theorem rd_byte (l : List Int) (hl : Bytes l) (i : Int) : 0 ≤ rd l i ∧ rd l i < 256 := by
  unfold rd
  rw [List.getD_eq_getElem?_getD]
  by_cases h : i.toNat < l.length
  · rw [List.getElem?_eq_getElem h]; exact hl _ (List.getElem_mem h)
  · rw [List.getElem?_eq_none (by omega)]; decide
theorem drop_two (l : List Int) (i : Nat) (h : i + 1 < l.length) : l.drop i = rd l i :: rd l ((i : Int) + 1) :: l.drop (i + 2) := by
  rw [List.drop_eq_getElem_cons (by omega), List.drop_eq_getElem_cons (by omega)]
  unfold rd
  rw [show ((i : Int) + 1).toNat = i + 1 by omega, Int.toNat_natCast]
  simp [List.getD_eq_getElem?_getD, h, show i < l.length by omega]
theorem drop_one (l : List Int) (i : Nat) (h : i + 1 = l.length) : l.drop i = [rd l i] := by
  rw [List.drop_eq_getElem_cons (by omega), List.drop_eq_nil_of_le (by omega)]
  unfold rd
  rw [Int.toNat_natCast]
  simp [List.getD_eq_getElem?_getD, show i < l.length by omega]
theorem ref_fl (l : List Int) (hl : Bytes l) (hlen : l.length ≤ 20000) (d : Nat) : ∀ (i : Nat) (one two : Int), i ≤ l.length + 1 → l.length + 1 - i ≤ d → 0 ≤ one → one < 65535 → 0 ≤ two → two < 65535 →
    ∃ k, chanceryref02_Fletcher.l0 k l one two i = some (fl (l.drop i) one two) := by
  induction d with
  | zero =>
    intro i one two h1 h2 o0 o1 t0 t1
    refine ⟨1, ?_⟩
    simp only [chanceryref02_Fletcher.l0]
    rw [if_neg (by omega), List.drop_eq_nil_of_le (by omega)]
    unfold fl wrap64
    congr 1; omega
  | succ d ih =>
    intro i one two h1 h2 o0 o1 t0 t1
    by_cases hlt : (i : Int) < l.length
    · have r1 := rd_byte l hl i
      have r2 := rd_byte l hl ((i : Int) + 1)
      have w1 : wrap64 ((i : Int) + 1) = (i : Int) + 1 := by unfold wrap64; omega
      have w2 : wrap64 ((i : Int) + 2) = ((i + 2 : Nat) : Int) := by unfold wrap64; omega
      by_cases hlt2 : (i : Int) + 1 < l.length
      · have e : wrap64 (one + wrap64 (wrap64 (rd l i) + wrap64 (256 * wrap64 (rd l ((i : Int) + 1))))) = one + (rd l i + 256 * rd l ((i : Int) + 1)) := by unfold wrap64; omega
        have m1 : Int.tmod (one + (rd l i + 256 * rd l ((i : Int) + 1))) 65535 = (one + (rd l i + 256 * rd l ((i : Int) + 1))) % 65535 := Int.tmod_eq_emod_of_nonneg (by omega)
        obtain ⟨k, hk⟩ := ih (i + 2) ((one + (rd l i + 256 * rd l ((i : Int) + 1))) % 65535) ((two + (one + (rd l i + 256 * rd l ((i : Int) + 1))) % 65535) % 65535) (by omega) (by omega) (by omega) (by omega) (by omega) (by omega)
        refine ⟨k + 1, ?_⟩
        simp only [chanceryref02_Fletcher.l0]
        rw [if_pos hlt, if_pos (by omega), w1, if_pos hlt2, if_pos (by omega), e, m1, w2]
        rw [show wrap64 (two + (one + (rd l i + 256 * rd l ((i : Int) + 1))) % 65535) = two + (one + (rd l i + 256 * rd l ((i : Int) + 1))) % 65535 by unfold wrap64; omega, Int.tmod_eq_emod_of_nonneg (by omega), hk]
        rw [drop_two l i (by omega)]
        rfl
      · have e : wrap64 (one + wrap64 (rd l i)) = one + rd l i := by unfold wrap64; omega
        have m1 : Int.tmod (one + rd l i) 65535 = (one + rd l i) % 65535 := Int.tmod_eq_emod_of_nonneg (by omega)
        obtain ⟨k, hk⟩ := ih (i + 2) ((one + rd l i) % 65535) ((two + (one + rd l i) % 65535) % 65535) (by omega) (by omega) (by omega) (by omega) (by omega) (by omega)
        refine ⟨k + 1, ?_⟩
        simp only [chanceryref02_Fletcher.l0]
        rw [if_pos hlt, if_pos (by omega), w1, if_neg hlt2, e, m1, w2]
        rw [show wrap64 (two + (one + rd l i) % 65535) = two + (one + rd l i) % 65535 by unfold wrap64; omega, Int.tmod_eq_emod_of_nonneg (by omega), hk]
        rw [drop_one l i (by omega), List.drop_eq_nil_of_le (by omega)]
        rfl
    · refine ⟨1, ?_⟩
      simp only [chanceryref02_Fletcher.l0]
      rw [if_neg hlt, List.drop_eq_nil_of_le (by omega)]
      unfold fl wrap64
      congr 1; omega
theorem own_fl (l : List Int) (hl : Bytes l) (hlen : l.length ≤ 20000) (d : Nat) : ∀ (i : Nat) (one two : Int), 2 * i ≤ l.length + 1 → l.length + 1 - 2 * i ≤ d → 0 ≤ one → one < 65535 → 0 ≤ two → two < 65535 →
    ∃ k, sums_Fletcher.l0 k l one two (((l.length : Int) + 1) / 2) i = some (fl (l.drop (2 * i)) one two) := by
  have fin : ∀ one two : Int, 0 ≤ one → one < 65535 → 0 ≤ two → two < 65535 → bits .or .u32 ((two * 65536) % 4294967296) one = 65536 * two + one := by
    intro one two o0 o1 t0 t1
    have := (or_add one two 16 o0 (by omega) t0 (by omega)).2
    rw [show (two * 65536) % 4294967296 = two * 2 ^ 16 by omega, this]
    omega
  induction d with
  | zero =>
    intro i one two h1 h2 o0 o1 t0 t1
    refine ⟨1, ?_⟩
    simp only [sums_Fletcher.l0]
    rw [if_neg (by omega), List.drop_eq_nil_of_le (by omega), fin one two o0 o1 t0 t1]
    rfl
  | succ d ih =>
    intro i one two h1 h2 o0 o1 t0 t1
    by_cases hlt : (i : Int) < ((l.length : Int) + 1) / 2
    · have w0 : wrap64 (2 * (i : Int)) = ((2 * i : Nat) : Int) := by unfold wrap64; omega
      have w1 : wrap64 (((2 * i : Nat) : Int) + 1) = ((2 * i : Nat) : Int) + 1 := by unfold wrap64; omega
      have w2 : wrap64 ((i : Int) + 1) = ((i + 1 : Nat) : Int) := by unfold wrap64; omega
      have r1 := rd_byte l hl ((2 * i : Nat) : Int)
      have r2 := rd_byte l hl (((2 * i : Nat) : Int) + 1)
      by_cases hlt2 : ((2 * i : Nat) : Int) + 1 < l.length
      · have e := (or_add (rd l ((2 * i : Nat) : Int)) (rd l (((2 * i : Nat) : Int) + 1)) 8 r1.1 (by omega) r2.1 (by omega)).1
        have e2 : bits .or .u32 (rd l ((2 * i : Nat) : Int) % 4294967296) ((rd l (((2 * i : Nat) : Int) + 1) % 4294967296 * 256) % 4294967296) = rd l ((2 * i : Nat) : Int) + 256 * rd l (((2 * i : Nat) : Int) + 1) := by
          rw [show rd l ((2 * i : Nat) : Int) % 4294967296 = rd l ((2 * i : Nat) : Int) by omega, show (rd l (((2 * i : Nat) : Int) + 1) % 4294967296 * 256) % 4294967296 = rd l (((2 * i : Nat) : Int) + 1) * 2 ^ 8 by omega, e]
          omega
        obtain ⟨k, hk⟩ := ih (i + 1) ((one + (rd l ((2 * i : Nat) : Int) + 256 * rd l (((2 * i : Nat) : Int) + 1))) % 65535) ((two + (one + (rd l ((2 * i : Nat) : Int) + 256 * rd l (((2 * i : Nat) : Int) + 1))) % 65535) % 65535) (by omega) (by omega) (by omega) (by omega) (by omega) (by omega)
        refine ⟨k + 1, ?_⟩
        simp only [sums_Fletcher.l0]
        rw [if_pos hlt, w0, if_pos (by omega), if_pos (by omega), w1, if_pos hlt2, if_pos (by omega), e2, w2]
        rw [show (one + (rd l ((2 * i : Nat) : Int) + 256 * rd l (((2 * i : Nat) : Int) + 1))) % 4294967296 = one + (rd l ((2 * i : Nat) : Int) + 256 * rd l (((2 * i : Nat) : Int) + 1)) by omega]
        rw [show (two + (one + (rd l ((2 * i : Nat) : Int) + 256 * rd l (((2 * i : Nat) : Int) + 1))) % 65535) % 4294967296 = two + (one + (rd l ((2 * i : Nat) : Int) + 256 * rd l (((2 * i : Nat) : Int) + 1))) % 65535 by omega, hk]
        rw [drop_two l (2 * i) (by omega), show 2 * (i + 1) = 2 * i + 2 by omega]
        rfl
      · obtain ⟨k, hk⟩ := ih (i + 1) ((one + rd l ((2 * i : Nat) : Int)) % 65535) ((two + (one + rd l ((2 * i : Nat) : Int)) % 65535) % 65535) (by omega) (by omega) (by omega) (by omega) (by omega) (by omega)
        refine ⟨k + 1, ?_⟩
        simp only [sums_Fletcher.l0]
        rw [if_pos hlt, w0, if_pos (by omega), if_pos (by omega), w1, if_neg hlt2, w2]
        rw [show rd l ((2 * i : Nat) : Int) % 4294967296 = rd l ((2 * i : Nat) : Int) by omega, show (one + rd l ((2 * i : Nat) : Int)) % 4294967296 = one + rd l ((2 * i : Nat) : Int) by omega]
        rw [show (two + (one + rd l ((2 * i : Nat) : Int)) % 65535) % 4294967296 = two + (one + rd l ((2 * i : Nat) : Int)) % 65535 by omega, hk]
        rw [drop_one l (2 * i) (by omega), List.drop_eq_nil_of_le (by omega)]
        rfl
    · refine ⟨1, ?_⟩
      simp only [sums_Fletcher.l0]
      rw [if_neg hlt, List.drop_eq_nil_of_le (by omega), fin one two o0 o1 t0 t1]
      rfl
theorem fl_ref (l : List Int) (hl : Bytes l) (hlen : l.length ≤ 20000) : ∃ k, chanceryref02_Fletcher.f k l = some (fl l 0 0) := by
  obtain ⟨k, hk⟩ := ref_fl l hl hlen (l.length + 1) 0 0 0 (by omega) (by omega) (by omega) (by omega) (by omega) (by omega)
  exact ⟨k, hk⟩
theorem fl_own (l : List Int) (hl : Bytes l) (hlen : l.length ≤ 20000) : ∃ k, sums_Fletcher.f k l = some (fl l 0 0) := by
  obtain ⟨k, hk⟩ := own_fl l hl hlen (l.length + 1) 0 0 0 (by omega) (by omega) (by omega) (by omega) (by omega) (by omega)
  refine ⟨k, ?_⟩
  unfold sums_Fletcher.f
  rw [show wrap64 (Int.tdiv (wrap64 ((l.length : Int) + 1)) 2) = ((l.length : Int) + 1) / 2 by
    rw [show wrap64 ((l.length : Int) + 1) = (l.length : Int) + 1 by unfold wrap64; omega, Int.tdiv_eq_ediv_of_nonneg (by omega)]; unfold wrap64; omega]
  exact hk
end Go.Proofs.Ytipgllkapphimaa.E

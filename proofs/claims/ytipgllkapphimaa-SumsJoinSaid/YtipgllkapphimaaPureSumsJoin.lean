/- Sums go on behind one another, and are linear: the law SumsJoin as a statement over lists and numbers. No condition but those that the row itself bears. -/
import Derived.Test.YtipgllkapphimaaQxf6
import Derived.Test.YtipgllkapphimaaC
namespace Go.Proofs.Ytipgllkapphimaa.Pure
open Go.RowKit Go.Proofs.Ytipgllkapphimaa.Q Go.Proofs.Ytipgllkapphimaa.A Go.Proofs.Ytipgllkapphimaa.B Go.Proofs.Ytipgllkapphimaa.L Go.Proofs.Ytipgllkapphimaa.C Go.Proofs.YtipgllkapphimaaW.PrintWords Go.Proofs.YtipgllkapphimaaW.PrintLast Go.Proofs.YtipgllkapphimaaW.PrintMore

theorem crcW_append (l m : List Int) : crcW m (crcW l 0#32) = crcW (l ++ m) 0#32 := by
  unfold crcW F
  rw [← BitVec.xor_assoc, BitVec.xor_self, BitVec.zero_xor, List.map_append, List.foldl_append]

def x3 (a b c : List Int) (i : Nat) : Int := bits .xor .u8 (bits .xor .u8 (a.getD i 0) (b.getD i 0)) (c.getD i 0)
def xs (a b c : List Int) (n : Nat) : List Int := (List.range n).map (x3 a b c)

theorem wrd_xor (x y : Int) (hx : 0 ≤ x ∧ x < 256) (hy : 0 ≤ y ∧ y < 256) : wrd (bits .xor .u8 x y) = wrd x ^^^ wrd y := by
  have e8 : ∀ z : Int, 0 ≤ z → z < 256 → (wrd z).setWidth 8 = BitVec.ofInt 8 z := by
    intro z h0 h1
    obtain ⟨n, rfl⟩ := Int.eq_ofNat_of_zero_le h0
    unfold wrd
    rw [BitVec.ofInt_natCast, BitVec.ofInt_natCast]
    apply BitVec.eq_of_toNat_eq
    simp
  have hb : bits .xor .u8 x y = ((BitVec.ofInt 8 x ^^^ BitVec.ofInt 8 y).toNat : Int) := by
    have e : ∀ n : Int, IntKind.u8.wrap n = n % 256 := fun n => rfl
    unfold bits
    rw [e]
    have : (BitVec.ofInt 8 x ^^^ BitVec.ofInt 8 y).toNat < 2 ^ 8 := (BitVec.ofInt 8 x ^^^ BitVec.ofInt 8 y).isLt
    show ((BitVec.ofInt 8 x ^^^ BitVec.ofInt 8 y).toNat : Int) % 256 = _
    omega
  rw [hb, ← e8 x hx.1 hx.2, ← e8 y hy.1 hy.2]
  have hlt : (wrd x ^^^ wrd y).toNat < 256 := by
    refine lt_of_bits _ 8 fun k hk => ?_
    rw [BitVec.getLsbD_xor, small_bit _ 8 k (wrd_byte x hx.1 hx.2) hk, small_bit _ 8 k (wrd_byte y hy.1 hy.2) hk]
    rfl
  rw [← BitVec.setWidth_xor]
  apply num_inj
  rw [num_wrd _ (by omega) (by have := ((wrd x ^^^ wrd y).setWidth 8).isLt; omega)]
  unfold num
  rw [BitVec.toNat_setWidth]
  omega
theorem xs_bytes (a b c : List Int) (n : Nat) : Bytes (xs a b c n) := by
  intro x hx
  obtain ⟨i, _, rfl⟩ := List.mem_map.1 hx
  exact xor_byte _ _
theorem getD_byte (a : List Int) (ha : Bytes a) (i : Nat) : 0 ≤ a.getD i 0 ∧ a.getD i 0 < 256 := by
  rw [List.getD_eq_getElem?_getD]
  by_cases h : i < a.length
  · rw [List.getElem?_eq_getElem h]; exact ha _ (List.getElem_mem h)
  · rw [List.getElem?_eq_none (by omega)]; decide
theorem xs_wrd (a b c : List Int) (ha : Bytes a) (hb : Bytes b) (hc : Bytes c) (n : Nat) (la : a.length = n) (lb : b.length = n) (lc : c.length = n) :
    (xs a b c n).map wrd = List.zipWith (· ^^^ ·) (List.zipWith (· ^^^ ·) (a.map wrd) (b.map wrd)) (c.map wrd) := by
  apply List.ext_getElem
  · simp [xs, la, lb, lc]
  · intro i h1 h2
    have hi : i < n := by simpa [xs] using h1
    simp only [List.getElem_map, xs, List.getElem_zipWith, List.getElem_range, x3]
    have A := getD_byte a ha i
    have B := getD_byte b hb i
    have D := getD_byte c hc i
    rw [wrd_xor _ _ (xor_byte _ _) D, wrd_xor _ _ A B]
    simp [List.getD_eq_getElem?_getD, la, lb, lc, hi]
theorem crc_x3 (a b c : List Int) (ha : Bytes a) (hb : Bytes b) (hc : Bytes c) (n : Nat) (la : a.length = n) (lb : b.length = n) (lc : c.length = n) :
    crcW (xs a b c n) 0#32 = crcW a 0#32 ^^^ crcW b 0#32 ^^^ crcW c 0#32 := by
  unfold crcW
  rw [xs_wrd a b c ha hb hc n la lb lc]
  have e : ones ^^^ 0#32 = (ones ^^^ ones) ^^^ ones := by decide
  rw [e, F_xor _ _ _ _ (by simp [la, lb, lc]), F_xor _ _ _ _ (by simp [la, lb])]
  have e2 : ones ^^^ ones ^^^ ones = ones := by decide
  rw [e2]
  generalize F (a.map wrd) ones = x
  generalize F (b.map wrd) ones = y
  generalize F (c.map wrd) ones = z
  apply BitVec.eq_of_getLsbD_eq
  intro i hi
  simp only [BitVec.getLsbD_xor]
  cases ones.getLsbD i <;> cases x.getLsbD i <;> cases y.getLsbD i <;> cases z.getLsbD i <;> rfl
theorem rd_nat (a : List Int) (i : Nat) : rd a (i : Int) = a.getD i 0 := rfl
theorem loop3 (a b c : List Int) (ha : Bytes a) (hb : Bytes b) (hc : Bytes c) (n : Nat) (hn : n ≤ 20000) (la : a.length = n) (lb : b.length = n) (lc : c.length = n) (d : Nat) : ∀ i : Nat, i ≤ n → n - i = d →
    ∃ k, chancerylaw02_SumsJoin.l0 k a b c n (xs a b c i) i = some true := by
  induction d with
  | zero =>
    intro i h hd
    obtain rfl : i = n := by omega
    refine ⟨1, ?_⟩
    simp only [chancerylaw02_SumsJoin.l0]
    rw [if_neg (by omega), crc_num _ (xs_bytes a b c i), crc_num a ha, crc_num b hb, crc_num c hc]
    simp only [Option.bind_some]
    rw [bits_xor, bits_xor, crc_x3 a b c ha hb hc i la lb lc, if_pos rfl]
    rfl
  | succ d ih =>
    intro i h hd
    obtain ⟨k, hk⟩ := ih (i + 1) (by omega) (by omega)
    refine ⟨k + 1, ?_⟩
    simp only [chancerylaw02_SumsJoin.l0]
    have hx : (xs a b c i).length = i := by simp [xs]
    rw [if_pos (by omega), if_pos (by omega), if_pos (by omega), if_pos (by omega), if_pos (by omega), if_pos (by omega)]
    rw [rd_nat, rd_nat, rd_nat]
    have e : xs a b c i ++ [Go.bits .xor .u8 (Go.bits .xor .u8 (a.getD i 0) (b.getD i 0)) (c.getD i 0)] = xs a b c (i + 1) := by
      unfold xs
      rw [List.range_succ, List.map_append]
      rfl
    rw [e, show wrap64 ((i : Int) + 1) = ((i + 1 : Nat) : Int) by unfold wrap64; omega]
    exact hk
theorem SumsJoin : chancerylaw02_SumsJoin.Pure := by
  intro a b c _ _ hwa _ _ hwb _ _ hwc
  have ha : Bytes a := fun x hx => wf_byte (hwa x hx)
  have hb : Bytes b := fun x hx => wf_byte (hwb x hx)
  have hc : Bytes c := fun x hx => wf_byte (hwc x hx)
  obtain ⟨n, hn⟩ : ∃ n : Nat, mn (mn (mn (a.length : Int) (b.length : Int)) (c.length : Int)) 20000 = (n : Int) := ⟨(mn (mn (mn (a.length : Int) (b.length : Int)) (c.length : Int)) 20000).toNat, by unfold mn; omega⟩
  have h1 : n ≤ a.length ∧ n ≤ b.length ∧ n ≤ c.length ∧ n ≤ 20000 := by unfold mn at hn; omega
  unfold chancerylaw02_SumsJoin.f
  rw [hn]
  have tb : ∀ l : List Int, Bytes l → Bytes (l.take n) := fun l hl x hx => hl x (List.mem_of_mem_take hx)
  obtain ⟨k, hk⟩ := loop3 (a.take n) (b.take n) (c.take n) (tb a ha) (tb b hb) (tb c hc) n h1.2.2.2 (by simp; omega) (by simp; omega) (by simp; omega) n 0 (by omega) (by omega)
  refine ⟨k + 1, ?_⟩
  have la : (a.take n).length = n := by simp; omega
  have lb : (b.take n).length = n := by simp; omega
  rw [if_pos (by omega), if_pos (by omega)]
  simp only [Option.bind_some, Int.toNat_natCast]
  rw [if_pos (by omega), if_pos (by omega)]
  have e1 : chancerylow_CopyBytes.f (a.take n) = some (a.take n) := by
    unfold chancerylow_CopyBytes.f
    rw [if_pos (by simp; omega)]; simp
  rw [e1]
  simp only [Option.bind_some]
  rw [if_pos (by omega), crc_num _ (tb a ha)]
  simp only [Option.bind_some]
  rw [more_num _ (tb b hb)]
  simp only [Option.bind_some]
  rw [crc_num _ (show Bytes (a.take n ++ b.take n) from fun x hx => by rcases List.mem_append.1 hx with h | h; exact tb a ha x h; exact tb b hb x h)]
  simp only [Option.bind_some]
  rw [crcW_append, if_pos rfl]
  have e2 : sums_More.f 0 (a.take n) = some (num (crcW (a.take n) 0#32)) := by
    have h0 : (0 : Int) = num 0#32 := by decide
    rw [h0, more_num _ (tb a ha)]
  rw [e2]
  simp only [Option.bind_some, bne_self_eq_false, chancerylaw02_SumsJoin.j0, Bool.false_eq_true, if_false]
  exact hk
end Go.Proofs.Ytipgllkapphimaa.Pure

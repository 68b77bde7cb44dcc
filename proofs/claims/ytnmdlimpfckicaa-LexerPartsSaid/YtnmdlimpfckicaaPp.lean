/- The plain law of LexerParts. -/
import Derived.Test.YtnmdlimpfckicaaJ
import Derived.Test.YtnmdlimpfckicaaQxf4
import Derived.Test.YtnmdlimpfckicaaNp
namespace Go.Proofs.Ytnmdlimpfckicaa.L
open Go.RowKit Go.Proofs.Ytnmdlimpfckicaa.Q Go.Proofs.Ytnmdlimpfckicaa.R Go.Proofs.Ytnmdlimpfckicaa.S Go.Proofs.Ytnmdlimpfckicaa.T Go.Proofs.Ytnmdlimpfckicaa.X Go.Proofs.YtnmdlimpfckicaaW.PrintWords Go.Proofs.YtnmdlimpfckicaaW.PrintLast Go.Proofs.YtnmdlimpfckicaaW.PrintMore

theorem awake_ge : ∃ k0, ∀ k, k0 ≤ k → chancerylaw19_awake.f k = some true := by
  obtain ⟨k0, h⟩ := Np.awake_true
  refine ⟨k0, fun k hk => ?_⟩
  obtain ⟨j, rfl⟩ : ∃ j, k = k0 + j := ⟨k - k0, by omega⟩
  clear hk
  induction j with
  | zero => exact h
  | succ j ih => exact chancerylaw19_awake.mono _ _ ih
theorem rd_mid (a : List S32) (t : S32) (r : List S32) : rd_T32 (a ++ t :: r) (a.length : Int) = t := by
  unfold rd_T32
  rw [Int.toNat_natCast, List.getD_eq_getElem?_getD, List.getElem?_append_right (Nat.le_refl _), Nat.sub_self]
  rfl
theorem set_mid (a : List S32) (t u : S32) (r : List S32) : (a ++ t :: r).set (a.length : Int).toNat u = a ++ u :: r := by
  rw [Int.toNat_natCast, List.set_append_right _ _ (Nat.le_refl _), Nat.sub_self, List.set_cons_zero]
/-- The loop that moves the second text's tokens. -/
theorem loop0 (x0 : ByteArray) (x5 x9 : List S32) (c0 c1 c2 c3 : Int) (d : Nat) (hd : wrap64 ((x0.size : Int) + 1) = (d : Int)) :
    ∀ (m2 m1 : List S32) (k : Nat), (∀ t ∈ m2, wrap64 (t.f2 + d) = t.f2 + d) → m1.length + m2.length ≤ 9223372036854775800 →
      chancerylaw19_LexerParts.l0 (k + m2.length) x0 x5 (m1 ++ m2) x9 (m1.length : Int) c0 c1 c2 c3 = chancerylaw19_LexerParts.l0 k x0 x5 (m1 ++ m2.map (sh d)) x9 ((m1.length + m2.length : Nat) : Int) c0 c1 c2 c3
  | [], m1, k, _, _ => rfl
  | t :: r, m1, k, ht, hl => by
    have ih := loop0 x0 x5 x9 c0 c1 c2 c3 d hd r (m1 ++ [sh d t]) k (fun u hu => ht u (List.mem_cons_of_mem _ hu)) (by rw [List.length_append, List.length_singleton]; rw [List.length_cons] at hl; omega)
    have h1 := ht t (List.mem_cons_self ..)
    have e1 : k + (t :: r).length = (k + r.length) + 1 := by rw [List.length_cons]; omega
    rw [e1, chancerylaw19_LexerParts.l0]
    have c1' : ((m1.length : Nat) : Int) < ((m1 ++ t :: r).length : Int) := by rw [List.length_append, List.length_cons]; omega
    rw [if_pos c1', if_pos (Int.natCast_nonneg _), rd_mid, set_mid, hd, h1]
    have e2 : wrap64 (((m1.length : Nat) : Int) + 1) = (((m1 ++ [sh d t]).length : Nat) : Int) := by
      rw [List.length_append, List.length_singleton, w64 (by omega) (by rw [List.length_cons] at hl; omega)]; omega
    have e3 : m1 ++ (⟨t.f0, t.f1, t.f2 + d⟩ : S32) :: r = (m1 ++ [sh d t]) ++ r := by rw [List.append_assoc]; rfl
    have e4 : m1 ++ (t :: r).map (sh d) = (m1 ++ [sh d t]) ++ r.map (sh d) := by rw [List.append_assoc]; rfl
    have e5 : m1.length + (t :: r).length = (m1 ++ [sh d t]).length + r.length := by rw [List.length_append, List.length_singleton, List.length_cons]; omega
    rw [e2, e3, e4, e5, ih]
theorem same_l : ∀ (n : Nat) (l : List S32) (i k : Nat), l.length - i ≤ n → l.length ≤ 9223372036854775800 → i ≤ l.length → n < k → chancerylaw19_same.l0 k l l (i : Int) = some true
  | _, _, _, 0, _, _, _, h => absurd h (Nat.not_lt_zero _)
  | 0, l, i, k + 1, h, _, _, _ => by
    rw [chancerylaw19_same.l0, if_neg (by omega)]
  | n + 1, l, i, k + 1, h, hl, hi, hk => by
    rw [chancerylaw19_same.l0]
    by_cases hc : i < l.length
    · have e : wrap64 ((i : Int) + 1) = ((i + 1 : Nat) : Int) := by rw [w64 (by omega) (by omega)]; omega
      rw [if_pos (by omega), if_pos (by omega), if_pos (by omega), if_pos rfl, if_pos rfl, e]
      exact same_l n l (i + 1) k (by omega) hl (by omega) (by omega)
    · rw [if_neg (by omega)]
theorem same_f (l : List S32) (k : Nat) (hl : l.length ≤ 9223372036854775800) (hk : l.length < k) : chancerylaw19_same.f k l l = some true := by
  unfold chancerylaw19_same.f
  rw [if_pos rfl]
  exact same_l l.length l 0 k (by omega) hl (by omega) hk
theorem loop1 (k0 : Nat) (ha : ∀ k, k0 ≤ k → chancerylaw19_awake.f k = some true) : ∀ (n : Nat) (l : List S32) (i k : Nat), l.length - i ≤ n → l.length ≤ 9223372036854775800 → i ≤ l.length → k0 + n < k → chancerylaw19_LexerParts.l1 k l l (i : Int) = some true
  | _, _, _, 0, _, _, _, h => absurd h (Nat.not_lt_zero _)
  | 0, l, i, k + 1, h, _, _, hk => by
    rw [chancerylaw19_LexerParts.l1, if_neg (by omega), ha k (by omega)]; rfl
  | n + 1, l, i, k + 1, h, hl, hi, hk => by
    rw [chancerylaw19_LexerParts.l1]
    by_cases hc : i < l.length
    · have e : wrap64 ((i : Int) + 1) = ((i + 1 : Nat) : Int) := by rw [w64 (by omega) (by omega)]; omega
      rw [if_pos (by omega), if_pos (by omega), if_pos (by omega), if_pos rfl, e]
      exact loop1 k0 ha n l (i + 1) k (by omega) hl (by omega) (by omega)
    · rw [if_neg (by omega), ha k (by omega)]; rfl
/-- What a text's tokens are, with the bound on its size. -/
def toksB (a : ByteArray) : List S32 × Int × Int := if a.size ≤ 4096 then toks a.data.toList else ([], 3, 0)
theorem toksB_f (a : ByteArray) (k : Nat) (hk : 4200 ≤ k) : lexer_Tokens.f k a = some (toksB a) := by
  unfold toksB
  by_cases h : a.size ≤ 4096
  · rw [if_pos h, tokens_f a h k (by omega)]
  · rw [if_neg h, tokens_long a (by omega) k]
theorem join_data (a b : ByteArray) : ((a ++ (⟨#[10]⟩ : ByteArray)) ++ b).data.toList = a.data.toList ++ 10 :: b.data.toList := by simp
theorem join_size (a b : ByteArray) : ((a ++ (⟨#[10]⟩ : ByteArray)) ++ b).size = a.size + 1 + b.size := by
  rw [← list_size, join_data, List.length_append, List.length_cons, list_size, list_size]; omega
theorem w_len (n m : Nat) (h : n + m ≤ 281474976710656) : wrap64 (wrap64 ((n : Int) + (m : Int)) + 1) = ((n + m + 1 : Nat) : Int) := by
  rw [wadd n m (by omega), w64 (by omega) (by omega)]; omega
theorem ten_size (a : ByteArray) : (a ++ (⟨#[10]⟩ : ByteArray)).size = a.size + 1 := by
  rw [← list_size]; simp
theorem toksB_big (a b : ByteArray) (h : ¬ a.size + b.size + 1 ≤ 4096) : toksB ((a ++ (⟨#[10]⟩ : ByteArray)) ++ b) = ([], 3, 0) := by
  unfold toksB
  rw [join_size, if_neg (fun h' => h (by omega))]
theorem toksB_join (a b : ByteArray) (h : a.size + b.size + 1 ≤ 4096) : toksB ((a ++ (⟨#[10]⟩ : ByteArray)) ++ b) = toks (a.data.toList ++ 10 :: b.data.toList) := by
  unfold toksB
  rw [join_size, if_pos (by omega), join_data]
theorem toksB_small (a : ByteArray) (h : a.size ≤ 4096) : toksB a = toks a.data.toList := by
  unfold toksB
  rw [if_pos h]
theorem parts_tail (a : ByteArray) (bs : Nat) (la lb : List S32) (fb pb : Int) (k0 K : Nat) (hk0 : ∀ k, k0 ≤ k → chancerylaw19_awake.f k = some true) (hK : k0 + 50000 ≤ K) (hbig : a.size + bs + 1 ≤ 4096) (hca : la.length ≤ a.size) (hcb : lb.length ≤ bs)
    (hpos : (∀ t ∈ lb, 0 ≤ t.f2 ∧ t.f2 ≤ bs) ∧ (fb ≠ 0 → 0 ≤ pb ∧ pb ≤ bs)) (hbz : fb = 0 → pb = 0) :
    chancerylaw19_LexerParts.l0 K a la lb (if fb = 0 then (la ++ lb.map (sh (a.size + 1 : Nat)), (0 : Int), (0 : Int)) else ([], fb, pb + ((a.size + 1 : Nat) : Int))).1 0 fb pb (if fb = 0 then (la ++ lb.map (sh (a.size + 1 : Nat)), (0 : Int), (0 : Int)) else ([], fb, pb + ((a.size + 1 : Nat) : Int))).2.1 (if fb = 0 then (la ++ lb.map (sh (a.size + 1 : Nat)), (0 : Int), (0 : Int)) else ([], fb, pb + ((a.size + 1 : Nat) : Int))).2.2 = some true := by
  have hd : wrap64 ((a.size : Int) + 1) = ((a.size + 1 : Nat) : Int) := by rw [w64 (by omega) (by omega)]; omega
  have hloop := loop0 a la (if fb = 0 then (la ++ lb.map (sh (a.size + 1 : Nat)), (0 : Int), (0 : Int)) else ([], fb, pb + ((a.size + 1 : Nat) : Int))).1 fb pb
    (if fb = 0 then (la ++ lb.map (sh (a.size + 1 : Nat)), (0 : Int), (0 : Int)) else ([], fb, pb + ((a.size + 1 : Nat) : Int))).2.1
    (if fb = 0 then (la ++ lb.map (sh (a.size + 1 : Nat)), (0 : Int), (0 : Int)) else ([], fb, pb + ((a.size + 1 : Nat) : Int))).2.2 (a.size + 1) hd lb [] (K - lb.length)
    (fun t ht => by have := hpos.1 t ht; rw [w64 (by omega) (by omega)]) (by simp; omega)
  have hk : K - lb.length + lb.length = K := by omega
  rw [hk, List.nil_append, List.nil_append, List.length_nil, Nat.zero_add] at hloop
  have e0 : ((0 : Nat) : Int) = 0 := rfl
  rw [e0] at hloop
  rw [hloop]
  clear hloop
  obtain ⟨k, hkk⟩ : ∃ k, K - lb.length = k + 1 + 1 := ⟨K - lb.length - 2, by omega⟩
  rw [hkk, chancerylaw19_LexerParts.l0, if_neg (by rw [List.length_map]; omega)]
  by_cases hg : fb = 0
  · have hp0 := hbz hg
    rw [if_pos hg]
    subst hg hp0
    rw [if_neg (by simp), if_pos (by rw [List.length_map]; omega), Option.bind_some]
    simp only []
    rw [if_neg (by simp), same_f _ _ (by rw [List.length_append, List.length_map]; omega) (by rw [List.length_append, List.length_map]; omega), Option.bind_some]
    have en : (!true) = false := rfl
    rw [en, chancerylaw19_LexerParts.j1, if_neg (by simp)]
    exact loop1 k0 hk0 _ _ 0 _ (Nat.sub_le _ _) (by rw [List.length_append, List.length_map]; omega) (Nat.zero_le _) (by rw [List.length_append, List.length_map]; omega)
  · rw [if_neg hg]
    have hp := hpos.2 hg
    have hc : (!(fb == 0) || !(pb == 0)) = true := by simp [hg]
    rw [if_pos hc]
    have hw2 : wrap64 (wrap64 (pb + (a.size : Int)) + 1) = pb + ((a.size + 1 : Nat) : Int) := by
      rw [w64 (x := pb + (a.size : Int)) (by omega) (by omega), w64 (by omega) (by omega)]; omega
    rw [hw2, if_pos (by simp), hk0 _ (by omega)]
    rfl
theorem parts_true : chancerylaw19_LexerParts.Pure := by
  intro a b ha hb
  obtain ⟨k0, hk0⟩ := awake_ge
  obtain ⟨K, hK⟩ : ∃ K, k0 + 50000 ≤ K := ⟨_, Nat.le_refl _⟩
  refine ⟨K, ?_⟩
  unfold chancerylaw19_LexerParts.f
  have hk1 : 4200 ≤ K := by omega
  have hk2 : k0 ≤ K := by omega
  have hw := w_len a.size b.size (by omega)
  have hl1 : a.size + 1 ≤ 9223372036854775807 := by omega
  have hl2 : a.size + 1 + b.size ≤ 9223372036854775807 := by omega
  rw [toksB_f a _ hk1, toksB_f b _ hk1, toksB_f _ _ hk1]
  rw [Option.bind_some, Option.bind_some, if_pos hl1, ten_size, if_pos hl2, Option.bind_some, hw, hk0 _ hk2]
  rw [Option.bind_some]
  clear hl1 hl2 hw hk1 hk2
  by_cases hbig : a.size + b.size + 1 ≤ 4096
  case neg =>
    rw [if_pos (by omega)]
    rw [toksB_big a b hbig]; rfl
  rw [if_neg (by omega), toksB_small a (by omega), toksB_small b (by omega), toksB_join a b hbig]
  have hz := toks_zero a.data.toList
  by_cases hf : (toks a.data.toList).2.1 = 0
  case neg =>
    have : (!((toks a.data.toList).2.1 == 0) || !((toks a.data.toList).2.2 == 0)) = true := by simp [hf]
    rw [if_pos this]
  have hfz := hz hf
  have : ¬ (!((toks a.data.toList).2.1 == 0) || !((toks a.data.toList).2.2 == 0)) = true := by rw [hfz]; simp
  rw [if_neg this, toks_join _ _ hf]
  clear this hz
  have hpos := toks_pos b.data.toList
  have hbz := toks_zero b.data.toList
  have hca := toks_count a.data.toList
  have hcb := toks_count b.data.toList
  rw [list_size] at hpos hca hcb
  rw [list_size]
  generalize toks a.data.toList = ta at hca hf hfz
  generalize toks b.data.toList = tb at hpos hbz hcb
  obtain ⟨la, fa, pa⟩ := ta
  obtain ⟨lb, fb, pb⟩ := tb
  exact parts_tail a b.size la lb fb pb k0 K hk0 hK hbig hca hcb hpos (fun h => by have := hbz h; simp only [Prod.mk.injEq] at this; exact this.2)
end Go.Proofs.Ytnmdlimpfckicaa.L

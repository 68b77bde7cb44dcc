/- The plain law of LexerSpaces. -/
import Derived.Test.YtnmdlimpfckicaaDoorSw
import Derived.Test.YtnmdlimpfckicaaDoorQxf3
import Derived.Lib.ReplaceLaws
namespace Go.Proofs.YtnmdlimpfckicaaDoor.L
open Go.RowKit Go.Proofs.YtnmdlimpfckicaaDoor.Q Go.Proofs.YtnmdlimpfckicaaDoor.R Go.Proofs.YtnmdlimpfckicaaDoor.S Go.Proofs.YtnmdlimpfckicaaDoor.T Go.Proofs.YtnmdlimpfckicaaDoor.X Go.Proofs.YtnmdlimpfckicaaDoor.Ra Go.Proofs.YtnmdlimpfckicaaDoorW.PrintWords Go.Proofs.YtnmdlimpfckicaaDoorW.PrintLast Go.Proofs.YtnmdlimpfckicaaDoorW.PrintMore

theorem awake_true : ∃ k, chancerylaw19_awake.f k = some true := ⟨40, by decide +kernel⟩
theorem awake_ge : ∃ k0, ∀ k, k0 ≤ k → chancerylaw19_awake.f k = some true := by
  obtain ⟨k0, h⟩ := awake_true
  refine ⟨k0, fun k hk => ?_⟩
  obtain ⟨j, rfl⟩ : ∃ j, k = k0 + j := ⟨k - k0, by omega⟩
  clear hk
  induction j with
  | zero => exact h
  | succ j ih => exact chancerylaw19_awake.mono _ _ ih
def toksB (a : ByteArray) : List S32 × Int × Int := if a.size ≤ 4096 then toks a.data.toList else ([], 3, 0)
theorem toksB_f (a : ByteArray) (k : Nat) (hk : 4200 ≤ k) : lexer_Tokens.f k a = some (toksB a) := by
  unfold toksB
  by_cases h : a.size ≤ 4096
  · rw [if_pos h, tokens_f a h k (by omega)]
  · rw [if_neg h, tokens_long a (by omega) k]
/-- A line break is replaced by a blank. -/
theorem repl_k : ∀ (k : Nat) (s : List UInt8), Lib.count s [10] = k → (Lib.replaceK [10] [32] k s).length = s.length ∧ ∀ c ∈ Lib.replaceK [10] [32] k s, c ≠ 10
  | 0, s, h => by
    have hi : Lib.index s [10] = -1 := by
      apply Classical.byContradiction; intro hc
      have hge := Lib.index_ge s [10]
      have h1 := Lib.count_hit (s := s) (sub := [10]) (i := (Lib.index s [10]).toNat) (by simp) (by omega)
      omega
    rw [Lib.index_one] at hi
    refine ⟨rfl, fun c hc e => ?_⟩
    subst e
    obtain ⟨i, hi2⟩ := List.getElem?_of_mem hc
    exact Lib.indexByte_none hi i hi2
  | k + 1, s, h => by
    obtain ⟨i, hi⟩ := Lib.index_of_count (s := s) (old := [10]) (by omega)
    have h1 := Lib.count_hit (s := s) (sub := [10]) (i := i) (by simp) hi
    have ih := repl_k k (s.drop (i + 1)) (by have e : ([10] : List UInt8).length = 1 := rfl
                                             rw [e] at h1; omega)
    rw [Lib.replaceK_hit [10] [32] k s i hi]
    rw [Lib.index_one] at hi
    have hs := Lib.indexByte_some hi
    have hil : i < s.length := (List.getElem?_eq_some_iff.mp hs.1).1
    have e : ([10] : List UInt8).length = 1 := rfl
    rw [e]
    refine ⟨?_, fun c hc e => ?_⟩
    · rw [List.length_append, List.length_append, ih.1, List.length_take, List.length_drop, List.length_singleton]; omega
    · rcases List.mem_append.mp hc with hc | hc
      · rcases List.mem_append.mp hc with hc | hc
        · subst e
          obtain ⟨j, hj⟩ := List.getElem?_of_mem hc
          have hjl : j < (s.take i).length := (List.getElem?_eq_some_iff.mp hj).1
          rw [List.length_take] at hjl
          rw [List.getElem?_take_of_lt (by omega)] at hj
          exact hs.2 j (by omega) hj
        · rw [List.mem_singleton] at hc; subst hc; exact absurd e (by decide)
      · exact ih.2 c hc e
theorem repl_ok (s : List UInt8) : (Lib.replaceAll s [10] [32]).length = s.length ∧ ∀ c ∈ Lib.replaceAll s [10] [32], c ≠ 10 := by
  unfold Lib.replaceAll Lib.replace
  rw [if_neg (by decide)]
  have : Lib.replaceNum s [10] (-1) = Lib.count s [10] := by unfold Lib.replaceNum; rw [if_pos (Or.inl (by decide))]
  rw [this]
  exact repl_k _ s rfl
theorem key_same : ∀ (n : Nat) (l m : List S32) (i k : Nat), l.length = m.length → l.map key = m.map key → l.length - i ≤ n → l.length ≤ 9223372036854775800 → i ≤ l.length → n < k → chancerylaw19_same.l0 k l m (i : Int) = some true
  | _, _, _, _, 0, _, _, _, _, _, h => absurd h (Nat.not_lt_zero _)
  | 0, l, m, i, k + 1, _, _, h, _, _, _ => by
    rw [chancerylaw19_same.l0, if_neg (by omega)]
  | n + 1, l, m, i, k + 1, hlm, hk, h, hl, hi, hkk => by
    rw [chancerylaw19_same.l0]
    by_cases hc : i < l.length
    · have e : wrap64 ((i : Int) + 1) = ((i + 1 : Nat) : Int) := by rw [w64 (by omega) (by omega)]; omega
      have hcm : i < m.length := by omega
      have hg : key (l[i]) = key (m[i]) := by
        have h1 : (l.map key)[i]? = (m.map key)[i]? := by rw [hk]
        rw [List.getElem?_map, List.getElem?_map, List.getElem?_eq_getElem hc, List.getElem?_eq_getElem hcm] at h1
        exact Option.some.inj h1
      have r1 : rd_T32 l (i : Int) = l[i] := by
        unfold rd_T32; rw [Int.toNat_natCast, List.getD_eq_getElem?_getD, List.getElem?_eq_getElem hc]; rfl
      have r2 : rd_T32 m (i : Int) = m[i] := by
        unfold rd_T32; rw [Int.toNat_natCast, List.getD_eq_getElem?_getD, List.getElem?_eq_getElem hcm]; rfl
      unfold key at hg
      injection hg with hg1 hg2
      rw [if_pos (by omega), if_pos (by omega), if_pos (by omega), r1, r2, if_pos hg1, if_pos (by rw [hg2]), e]
      exact key_same n l m (i + 1) k hlm hk (by omega) hl (by omega) (by omega)
    · rw [if_neg (by omega)]
theorem same_key (l m : List S32) (k : Nat) (hk : l.map key = m.map key) (hl : l.length ≤ 9223372036854775800) (hkk : l.length < k) : chancerylaw19_same.f k l m = some true := by
  have hlm : l.length = m.length := by have := congrArg List.length hk; simpa using this
  unfold chancerylaw19_same.f
  rw [if_pos (by omega)]
  exact key_same l.length l m 0 k hlm hk (by omega) hl (by omega) hkk
theorem sz1 (x : ByteArray) : (x ++ (⟨#[9, 32, 45, 45]⟩ : ByteArray)).size = x.size + 4 := by rw [ByteArray.size_append]; rfl
theorem sz2 (x y : ByteArray) : ((x ++ (⟨#[9, 32, 45, 45]⟩ : ByteArray)) ++ y).size = x.size + 4 + y.size := by rw [ByteArray.size_append, sz1]
theorem sz3 (x y : ByteArray) : (((x ++ (⟨#[9, 32, 45, 45]⟩ : ByteArray)) ++ y) ++ (⟨#[10, 32]⟩ : ByteArray)).size = x.size + 4 + y.size + 2 := by rw [ByteArray.size_append, sz2]; rfl
theorem sz4 (x : ByteArray) (i j : Nat) : (x.extract i j).size ≤ x.size := by rw [ByteArray.size_extract]; omega
theorem sz5 (x y z : ByteArray) (i j : Nat) : ((((x ++ (⟨#[9, 32, 45, 45]⟩ : ByteArray)) ++ y) ++ (⟨#[10, 32]⟩ : ByteArray)) ++ z.extract i j).size ≤ x.size + 4 + y.size + 2 + z.size := by
  rw [ByteArray.size_append, sz3]
  have := sz4 z i j
  omega
theorem dat5 (x y z : ByteArray) (i j : Nat) : ((((x ++ (⟨#[9, 32, 45, 45]⟩ : ByteArray)) ++ y) ++ (⟨#[10, 32]⟩ : ByteArray)) ++ z.extract i j).data.toList = x.data.toList ++ (pre y.data.toList ++ (z.data.toList.drop i).take (j - i)) := by
  have h := Lib.extract_data z i j
  generalize z.extract i j = u at h
  rw [← h]
  unfold pre
  simp
theorem rd_mid (a : List S32) (t : S32) (r : List S32) : rd_T32 (a ++ t :: r) (a.length : Int) = t := by
  unfold rd_T32
  rw [Int.toNat_natCast, List.getD_eq_getElem?_getD, List.getElem?_append_right (Nat.le_refl _), Nat.sub_self]
  rfl
theorem rd_next (a : List S32) (t u : S32) (r : List S32) : rd_T32 (a ++ t :: u :: r) ((a.length + 1 : Nat) : Int) = u := by
  have e : a ++ t :: u :: r = (a ++ [t]) ++ u :: r := by simp
  have e2 : a.length + 1 = (a ++ [t]).length := by simp
  rw [e, e2, rd_mid]
theorem loopS (x0 x1 : ByteArray) (h0 : x0.size ≤ 300) (h1 : x1.size ≤ 10) : ∀ (r a : List S32) (x7 : ByteArray) (k : Nat), asc x0.data.toList.length r → (a ++ r).length ≤ 100 → x7.size ≤ a.length * 400 →
    ∃ x7' : ByteArray, x7'.data.toList = x7.data.toList ++ wl x1.data.toList x0.data.toList r ∧ chancerylaw19_LexerSpaces.l0 (k + r.length) x0 x1 (a ++ r) x7 (a.length : Int) = chancerylaw19_LexerSpaces.l0 k x0 x1 (a ++ r) x7' ((a ++ r).length : Int)
  | [], a, x7, k, _, _, _ => ⟨x7, by unfold wl; simp, by rw [List.append_nil]; rfl⟩
  | t :: r, a, x7, k, has, hl, hx => by
    have hl' : a.length + (r.length + 1) ≤ 100 := by rw [List.length_append, List.length_cons] at hl; exact hl
    unfold asc at has
    rw [list_size] at has
    obtain ⟨p0, p1, p2, pr⟩ := has
    have q1 : x7.size + 4 ≤ 9223372036854775807 := by omega
    have q2 : x7.size + 4 + x1.size ≤ 9223372036854775807 := by omega
    have q3 : x7.size + 4 + x1.size + 2 ≤ 9223372036854775807 := by omega
    have ew : wrap64 ((a.length : Int) + 1) = ((a.length + 1 : Nat) : Int) := by rw [w64 (by omega) (by omega)]; omega
    have c1 : ((a.length : Nat) : Int) < ((a ++ t :: r).length : Int) := by rw [List.length_append, List.length_cons]; omega
    have step : ∃ y7 : ByteArray, y7.data.toList = x7.data.toList ++ (pre x1.data.toList ++ (x0.data.toList.drop t.f2.toNat).take ((nextAt x0.data.toList.length r).toNat - t.f2.toNat)) ∧ y7.size ≤ (a.length + 1) * 400 ∧
        chancerylaw19_LexerSpaces.l0 (k + r.length + 1) x0 x1 (a ++ t :: r) x7 (a.length : Int) = chancerylaw19_LexerSpaces.l0 (k + r.length) x0 x1 (a ++ t :: r) y7 ((a.length + 1 : Nat) : Int) := by
      cases r with
      | nil =>
        have p1' : t.f2 ≤ (x0.size : Int) := p1
        refine ⟨_, dat5 x7 x1 x0 t.f2.toNat x0.size, ?_, ?_⟩
        · have := sz5 x7 x1 x0 t.f2.toNat x0.size
          exact Nat.le_trans this (by omega)
        · have q4 : x7.size + 4 + x1.size + 2 + (x0.extract t.f2.toNat x0.size).size ≤ 9223372036854775807 := Nat.le_trans (Nat.add_le_add_left (sz4 x0 t.f2.toNat x0.size) _) (by omega)
          have c2 : ¬ (((a.length + 1 : Nat) : Int) < ((a ++ [t]).length : Int)) := by rw [List.length_append, List.length_singleton]; omega
          conv => lhs; rw [chancerylaw19_LexerSpaces.l0]
          rw [if_pos c1, ew, if_neg c2, if_pos q1, sz1, if_pos q2, sz2, if_pos q3, if_pos (Int.natCast_nonneg _), rd_mid, if_pos p0, if_pos p1', if_pos (Int.le_refl _), sz3, Int.toNat_natCast, if_pos q4]
      | cons u r =>
        have p1' : t.f2 ≤ u.f2 := p1
        have p2' : u.f2 ≤ (x0.size : Int) := p2
        refine ⟨_, dat5 x7 x1 x0 t.f2.toNat u.f2.toNat, ?_, ?_⟩
        · have := sz5 x7 x1 x0 t.f2.toNat u.f2.toNat
          exact Nat.le_trans this (by omega)
        · have q4 : x7.size + 4 + x1.size + 2 + (x0.extract t.f2.toNat u.f2.toNat).size ≤ 9223372036854775807 := Nat.le_trans (Nat.add_le_add_left (sz4 x0 t.f2.toNat u.f2.toNat) _) (by omega)
          have c2 : (((a.length + 1 : Nat) : Int) < ((a ++ t :: u :: r).length : Int)) := by rw [List.length_append, List.length_cons, List.length_cons]; omega
          conv => lhs; rw [chancerylaw19_LexerSpaces.l0]
          rw [if_pos c1, ew, if_pos c2, if_pos (Int.natCast_nonneg _), if_pos q1, sz1, if_pos q2, sz2, if_pos q3, if_pos (Int.natCast_nonneg _), rd_mid, if_pos p0, rd_next, if_pos p1', if_pos p2', sz3, if_pos q4]
    obtain ⟨y7, hy, hys, hst⟩ := step
    have el : (a ++ [t]).length = a.length + 1 := by simp
    have ea : (a ++ [t]) ++ r = a ++ t :: r := by simp
    obtain ⟨x7', hx7, hr⟩ := loopS x0 x1 h0 h1 r (a ++ [t]) y7 k pr (by rw [ea]; exact hl) (by rw [el]; exact hys)
    refine ⟨x7', ?_, ?_⟩
    · rw [hx7, hy]; conv => rhs; unfold wl
      simp
    · have ek : k + (t :: r).length = k + r.length + 1 := by rw [List.length_cons]; omega
      rw [ek, hst]
      rw [el, ea] at hr
      exact hr
theorem j0_true (k : Nat) (a b : ByteArray) (l : List S32) (h : chancerylaw19_awake.f k = some true) : chancerylaw19_LexerSpaces.j0 (k + 1) a b l true = some true := by
  rw [chancerylaw19_LexerSpaces.j0, if_pos rfl, h]; rfl
theorem spaces_l (x0 note : ByteArray) (k0 K : Nat) (hk0 : ∀ k, k0 ≤ k → chancerylaw19_awake.f k = some true) (hK : k0 + 49000 ≤ K) (h0 : x0.size ≤ 300) (h1 : note.size ≤ 10) (hn : ∀ c ∈ note.data.toList, c ≠ 10)
    (he : (toks x0.data.toList).2.1 = 0) (hc : (toks x0.data.toList).1.length ≤ 100) :
    chancerylaw19_LexerSpaces.l0 K x0 note (toks x0.data.toList).1 ⟨#[]⟩ 0 = some true := by
  have hw := wide_toks note.data.toList x0.data.toList hn he
  generalize (toks x0.data.toList).1 = l at hc hw
  have hL := loopS x0 note h0 h1 l [] ⟨#[]⟩ (K - l.length) hw.2.2 (by rw [List.nil_append]; exact hc) (by exact Nat.zero_le _)
  obtain ⟨x7, hx7, hL⟩ := hL
  have ek : K - l.length + l.length = K := by omega
  rw [ek, List.nil_append] at hL
  have hL' : chancerylaw19_LexerSpaces.l0 K x0 note l ⟨#[]⟩ 0 = chancerylaw19_LexerSpaces.l0 (K - l.length) x0 note l x7 (l.length : Int) := hL
  rw [hL']
  clear hL hL' ek
  obtain ⟨k, hkk⟩ : ∃ k, K - l.length = k + 1 := ⟨K - l.length - 1, by omega⟩
  have hk1 : 4200 ≤ k := by omega
  have hk2 : k0 ≤ k := by omega
  have hk3 : l.length < k := by omega
  rw [hkk, chancerylaw19_LexerSpaces.l0, if_neg (Int.lt_irrefl _), toksB_f x7 k hk1, Option.bind_some, hk0 k hk2]
  have hx7' : x7.data.toList = wl note.data.toList x0.data.toList l := by rw [hx7]; rfl
  clear hkk hx7
  unfold toksB
  by_cases hs : x7.size ≤ 4096
  · rw [if_neg (by omega), if_pos hs, hx7']
    have hz := toks_zero (wl note.data.toList x0.data.toList l) hw.1
    have hb : ((toks (wl note.data.toList x0.data.toList l)).2.1 == 0 && (toks (wl note.data.toList x0.data.toList l)).2.2 == 0) = true := by rw [hz]; rfl
    rw [if_pos hb, same_key l _ k hw.2.1.symm (by omega) hk3]
    rfl
  · rw [if_pos (by omega), if_neg hs]; rfl
theorem spaces_true : chancerylaw19_LexerSpaces.Pure := by
  intro a b ha hb
  obtain ⟨k0, hk0⟩ := awake_ge
  obtain ⟨K, hK⟩ : ∃ K, k0 + 50000 ≤ K := ⟨_, Nat.le_refl _⟩
  refine ⟨K + 1, ?_⟩
  have hk1 : 4200 ≤ K + 1 := by omega
  have hk2 := hk0 K (by omega)
  unfold chancerylaw19_LexerSpaces.f
  rw [toksB_f a _ hk1, Option.bind_some, j0_true K a b _ hk2]
  by_cases g1 : (!((toksB a).2.1 == 0) || !((toksB a).2.2 == 0)) = true
  · rw [if_pos g1]
  rw [if_neg g1]
  by_cases g2 : (a.size : Int) > 300
  · rw [if_pos g2]
  rw [if_neg g2]
  by_cases g3 : (b.size : Int) > 10
  · rw [if_pos g3]
  rw [if_neg g3]
  have g2' : a.size ≤ 300 := by omega
  have g3' : b.size ≤ 10 := by omega
  have et : toksB a = toks a.data.toList := by unfold toksB; rw [if_pos (by omega)]
  rw [et] at g1 ⊢
  have he : (toks a.data.toList).2.1 = 0 := by
    apply Classical.byContradiction; intro hc
    apply g1
    have : ((toks a.data.toList).2.1 == 0) = false := by simpa using hc
    rw [this]; rfl
  by_cases g4 : ((toks a.data.toList).1.length : Int) > 100
  · rw [decide_eq_true g4, j0_true K a b _ hk2]
  rw [decide_eq_false g4, chancerylaw19_LexerSpaces.j0, if_neg (by simp)]
  have g4' : (toks a.data.toList).1.length ≤ 100 := by omega
  have hr := repl_ok b.data.toList
  have hcb : Lib.countB b ⟨#[10]⟩ ≤ b.size := Lib.countB_le ⟨#[10]⟩ (Nat.le_refl _) b.size b (Nat.le_refl _)
  have hf : strings_ReplaceAll.f b (⟨#[10]⟩ : ByteArray) (⟨#[32]⟩ : ByteArray) = some ⟨(Lib.replaceAll b.data.toList [10] [32]).toArray⟩ := by
    unfold strings_ReplaceAll.f
    have e32 : (⟨#[32]⟩ : ByteArray).size = 1 := rfl
    rw [if_pos ⟨by omega, Nat.le_refl _, by rw [e32]; omega⟩]
  rw [hf, Option.bind_some]
  have hns : (⟨(Lib.replaceAll b.data.toList [10] [32]).toArray⟩ : ByteArray).size ≤ 10 := by
    rw [← list_size]
    have : (⟨(Lib.replaceAll b.data.toList [10] [32]).toArray⟩ : ByteArray).data.toList = Lib.replaceAll b.data.toList [10] [32] := rfl
    rw [this, hr.1, list_size]; exact g3'
  exact spaces_l a _ k0 K hk0 (by clear hns hf; omega) g2' hns hr.2 he g4'
end Go.Proofs.YtnmdlimpfckicaaDoor.L

/- What the lexer says of a text, in plain Lean over lists of bytes. -/
import Derived.Test.YtnmdlimpfckicaaDoorX
namespace Go.Proofs.YtnmdlimpfckicaaDoor.L
open Go.RowKit Go.Proofs.YtnmdlimpfckicaaDoor.Q Go.Proofs.YtnmdlimpfckicaaDoor.R Go.Proofs.YtnmdlimpfckicaaDoor.S Go.Proofs.YtnmdlimpfckicaaDoor.T Go.Proofs.YtnmdlimpfckicaaDoor.X Go.Proofs.YtnmdlimpfckicaaDoorW.PrintWords Go.Proofs.YtnmdlimpfckicaaDoorW.PrintLast Go.Proofs.YtnmdlimpfckicaaDoorW.PrintMore

theorem list_size (a0 : ByteArray) : a0.data.toList.length = a0.size := by simp
theorem extract_eq (a0 : ByteArray) (i j : Nat) : a0.extract i j = ⟨((a0.data.toList.drop i).take (j - i)).toArray⟩ := by
  have h := Lib.extract_data a0 i j
  cases he : a0.extract i j with
  | mk d =>
    rw [he] at h
    rw [← h]
theorem extract_tail (a0 : ByteArray) (i : Nat) : (a0.extract i a0.size).data.toList = a0.data.toList.drop i := by
  rw [Lib.extract_data, List.take_of_length_le (by simp)]
theorem hasP_list (a0 p : ByteArray) : hasP a0 p = p.data.toList.isPrefixOf a0.data.toList := by
  unfold hasP
  rw [Bool.eq_iff_iff, List.isPrefixOf_iff_prefix, List.prefix_iff_eq_take, Bool.and_eq_true, decide_eq_true_eq, beq_iff_eq, ByteArray.toList_eq, ByteArray.toList_eq, Lib.extract_data, List.drop_zero, Nat.sub_zero, list_size]
  constructor
  · rintro ⟨_, h⟩; exact h.symm
  · intro h
    refine ⟨?_, h.symm⟩
    have := congrArg List.length h
    rw [List.length_take, list_size, list_size] at this
    omega
def headZero : List UInt8 → Bool
  | c :: _ => c == 48
  | [] => false
def dotB : List UInt8 → Bool
  | c :: d :: _ => c == 46 && digitB (d.toNat : Int)
  | _ => false
def numL (s : List UInt8) : Nat :=
  if (decide (1 < headOf digitB s) && headZero s) = true then 0 else
  if dotB (s.drop (headOf digitB s)) = true then (if 4 < headOf digitB (s.drop (headOf digitB s + 1)) then 0 else headOf digitB s + (1 + headOf digitB (s.drop (headOf digitB s + 1))))
  else headOf digitB s
def signL (s : List UInt8) : Int × ByteArray × Nat :=
  if [60, 62].isPrefixOf s then (5, ⟨#[60, 62]⟩, 2) else
  if [60, 61].isPrefixOf s then (5, ⟨#[60, 61]⟩, 2) else
  if [62, 61].isPrefixOf s then (5, ⟨#[62, 61]⟩, 2) else
  if Lib.indexByte signs.data.toList (s.headD 0) < 0 then (0, ⟨#[]⟩, 0) else (5, ⟨(s.take 1).toArray⟩, 1)
/-- The token at the beginning of a text; of length 0: none. -/
def nextL (s : List UInt8) : Int × ByteArray × Nat :=
  if [120, 39].isPrefixOf s then (4, (octF ⟨s.toArray⟩).1, (octF ⟨s.toArray⟩).2.toNat) else
  if s.headD 0 = 39 then (3, (txt [] (s.drop 1) 1).1, (txt [] (s.drop 1) 1).2.toNat) else
  if letterB ((s.headD 0).toNat : Int) then (if 24 < headOf partB s then (0, ⟨#[]⟩, 0) else (1, ⟨(s.take (headOf partB s)).toArray⟩, headOf partB s)) else
  if digitB ((s.headD 0).toNat : Int) then (2, ⟨(s.take (numL s)).toArray⟩, numL s) else
  signL s
theorem w64 {x : Int} (h0 : 0 ≤ x) (h1 : x ≤ 9223372036854775807) : wrap64 x = x := by unfold wrap64; omega
theorem w_sum (n m : Nat) (h : n + m ≤ 140737488351300) : wrap64 ((n : Int) + wrap64 (1 + (m : Int))) = ((n + (1 + m) : Nat) : Int) := by
  rw [w64 (x := 1 + (m : Int)) (by omega) (by omega), w64 (by omega) (by omega)]; omega
theorem headD_zero : ∀ (l : List UInt8) (h : 0 < l.length), l[0] = l.headD 0
  | [], h => by simp at h
  | _ :: _, _ => rfl
theorem bt_head (a0 : ByteArray) (h : 0 < a0.size) : bt a0 0 = ((a0.data.toList.headD 0).toNat : Int) := by
  rw [← bt_zero a0 h, ← headD_zero a0.data.toList (by simpa using h)]; rfl
theorem bt_get (a0 : ByteArray) (i : Nat) (h : i < a0.size) : bt a0 (i : Int) = ((a0[i].toNat : Nat) : Int) := by
  have h1 := bt_at a0 (i : Int) (by simpa using h)
  rw [← h1]; rfl
theorem txt_pos : ∀ (n : Nat) (acc l : List UInt8) (i : Nat), l.length ≤ n → ((txt acc l i).2 = 0 ∨ (i : Int) < (txt acc l i).2 ∧ (txt acc l i).2 ≤ i + l.length)
  | _, acc, [], i, _ => by unfold txt; exact Or.inl rfl
  | 0, _, _ :: _, _, h => by simp at h
  | n + 1, acc, c :: r, i, h => by
    have hr : r.length ≤ n := by simpa using h
    unfold txt
    by_cases hc : c = 39
    · rw [if_pos hc]
      cases r with
      | nil => simp only []; split <;> simp <;> omega
      | cons d q =>
        simp only []
        by_cases hd : d = 39
        · rw [if_pos hd]
          have := txt_pos n (acc ++ [39]) q (i + 2) (by simp at hr; omega)
          simp only [List.length_cons]
          omega
        · rw [if_neg hd]
          split <;> simp <;> omega
    · rw [if_neg hc]
      have := txt_pos n (acc ++ [c]) r (i + 1) hr
      simp only [List.length_cons]
      omega
theorem number_f (a0 : ByteArray) (k : Nat) (h : 0 < a0.size) (hs : a0.size ≤ 140737488351232) : lexer_number.f (k + 1 + 1) a0 = some (numL a0.data.toList : Int) := by
  unfold lexer_number.f run_digit.f
  have hle := headOf_le digitB a0.data.toList
  rw [list_size] at hle
  rw [if_pos (by omega)]
  simp only [Option.bind_some]
  generalize hn : headOf digitB a0.data.toList = n at hle
  have key : lexer_number.j0 (k + 1 + 1) a0 (n : Int) false = some ((if dotB (a0.data.toList.drop n) = true then (if 4 < headOf digitB (a0.data.toList.drop (n + 1)) then 0 else n + (1 + headOf digitB (a0.data.toList.drop (n + 1)))) else n : Nat) : Int) := by
    have hw : wrap64 ((n : Int) + 1) = ((n + 1 : Nat) : Int) := by rw [w64 (by omega) (by omega)]; omega
    have j1f : ∀ k, lexer_number.j1 (k + 1) a0 (n : Int) false = some (n : Int) := by intro k; unfold lexer_number.j1; rfl
    rw [lexer_number.j0]
    rw [if_neg (by simp), hw]
    by_cases h1 : n + 1 < a0.size
    · rw [if_pos (by exact_mod_cast h1), if_pos (by omega), if_pos (by omega), bt_get a0 n (by omega), bt_get a0 (n + 1) h1]
      have e0 := drop_at a0 n (by omega)
      have e1 := drop_at a0 (n + 1) h1
      rw [e0, e1]
      have hdot : dotB (a0[n] :: a0[n + 1] :: a0.data.toList.drop (n + 1 + 1)) = (a0[n] == 46 && digitB (a0[n + 1].toNat : Int)) := rfl
      rw [hdot]
      by_cases h46 : a0[n] = 46
      · rw [if_pos (show ((a0[n].toNat : Nat) : Int) = 46 by rw [h46]; rfl), if_pos (by omega), digit_f]
        have hw2 : wrap32 ((a0[n + 1].toNat : Nat) : Int) = (a0[n + 1].toNat : Int) := by
          have := a0[n + 1].toNat_lt; unfold wrap32; omega
        rw [hw2]
        simp only [Option.bind_some, h46, beq_self_eq_true, Bool.true_and]
        cases hd : digitB (a0[n + 1].toNat : Int)
        · rw [j1f]; simp
        · rw [lexer_number.j1, if_pos rfl, hw, if_pos (show (0 : Int) ≤ ((n + 1 : Nat) : Int) by omega), if_pos (show ((n + 1 : Nat) : Int) ≤ (a0.size : Int) by omega)]
          unfold run_digit.f
          have e2 : (((n + 1 : Nat) : Int)).toNat = n + 1 := by omega
          rw [e2, extract_tail, if_pos (by simp; omega), e1]
          simp only [Option.bind_some]
          have hm := headOf_le digitB (a0[n + 1] :: a0.data.toList.drop (n + 1 + 1))
          have hl : (a0[n + 1] :: a0.data.toList.drop (n + 1 + 1)).length = a0.size - (n + 1) := by rw [← e1]; simp
          rw [hl] at hm
          generalize headOf digitB (a0[n + 1] :: a0.data.toList.drop (n + 1 + 1)) = m at hm
          by_cases h4 : 4 < m
          · rw [if_pos (show (m : Int) > 4 by omega), if_pos h4]; simp
          · rw [if_neg (show ¬ (m : Int) > 4 by omega)]
            rw [w_sum n m (by clear hl e0 e1 hn hdot h46 hw2 hd; omega), if_neg h4]; simp
      · have hne : ¬ ((a0[n].toNat : Nat) : Int) = 46 := by
          intro e
          have : a0[n].toNat = 46 := by omega
          exact h46 (UInt8.toNat_inj.mp (by rw [this]; rfl))
        rw [if_neg hne, j1f]
        have : (a0[n] == 46) = false := by simpa using h46
        simp [this]
    · rw [if_neg (by exact_mod_cast h1), j1f]
      have : dotB (a0.data.toList.drop n) = false := by
        have hl : (a0.data.toList.drop n).length ≤ 1 := by simp; omega
        match hd : a0.data.toList.drop n, hl with
        | [], _ => rfl
        | [_], _ => rfl
      rw [this]; simp
  have kt : lexer_number.j0 (k + 1 + 1) a0 (n : Int) true = some 0 := by unfold lexer_number.j0; rfl
  have hb := bt_head a0 h
  have hz : ((bt a0 0) == 48) = headZero a0.data.toList := by
    rw [hb]
    cases hl : a0.data.toList with
    | nil => rfl
    | cons c r =>
      unfold headZero
      simp only [List.headD_cons]
      rw [Bool.eq_iff_iff, beq_iff_eq, beq_iff_eq]
      constructor
      · intro e; have : c.toNat = 48 := by omega
        exact UInt8.toNat_inj.mp (by rw [this]; rfl)
      · intro e; rw [e]; rfl
  unfold numL
  rw [hn]
  by_cases h1 : 1 < n
  · rw [if_pos (by exact_mod_cast h1), if_pos (by omega), hz]
    cases headZero a0.data.toList
    · rw [key]; simp
    · rw [kt]; simp [h1]
  · rw [if_neg (by exact_mod_cast h1), key]; simp [h1]

theorem len_pos_of (l : List UInt8) (h : l ≠ []) : 0 < l.length := by cases l <;> simp at *
theorem prefix2_len {a b : UInt8} {s : List UInt8} (h : [a, b].isPrefixOf s = true) : 2 ≤ s.length := by
  match s, h with
  | [], h => simp at h
  | [_], h => simp at h
  | _ :: _ :: _, _ => simp
theorem ib_lt (l : List UInt8) (c : UInt8) (h : 0 ≤ Lib.indexByte l c) : Lib.indexByte l c < l.length := by
  have e : Lib.indexByte l c = ((Lib.indexByte l c).toNat : Int) := by omega
  have h1 := (Lib.indexByte_some e).1
  have h2 := (List.getElem?_eq_some_iff.mp h1).1
  omega
theorem octF_pos (a0 : ByteArray) (h : 2 ≤ a0.size) : 0 ≤ (octF a0).2 ∧ (octF a0).2 ≤ a0.size := by
  unfold octF
  split
  · simp
  · rename_i hc
    unfold octRes
    split
    · simp
    · have h1 := ib_lt (a0.data.toList.drop 2) 39 (by omega)
      simp only [List.length_drop, list_size] at h1
      simp only []
      omega
theorem numL_le (s : List UInt8) : numL s ≤ s.length := by
  unfold numL
  have h0 := headOf_le digitB s
  split
  · omega
  split
  · rename_i hd
    split
    · omega
    · have h1 := headOf_le digitB (s.drop (headOf digitB s + 1))
      rw [List.length_drop] at h1
      have h2 : headOf digitB s < s.length := by
        apply Classical.byContradiction; intro hc
        rw [List.drop_of_length_le (by omega)] at hd
        simp [dotB] at hd
      omega
  · omega
theorem next_f (a0 : ByteArray) (k : Nat) (h : 0 < a0.size) (hs : a0.size ≤ 140737488351232) :
    lexer_next.f (k + 1 + 1) a0 = some ((nextL a0.data.toList).1, (nextL a0.data.toList).2.1, 0, ((nextL a0.data.toList).2.2 : Int)) := by
  have hb := bt_head a0 h
  have hd : a0.data.toList.drop 1 = a0.data.toList.drop 1 := rfl
  unfold lexer_next.f nextL
  rw [if_neg (by omega), hasP_list]
  have hA : (⟨a0.data.toList.toArray⟩ : ByteArray) = a0 := rfl
  by_cases h1 : [120, 39].isPrefixOf a0.data.toList = true
  · have h1' : ((⟨#[120, 39]⟩ : ByteArray).data.toList.isPrefixOf a0.data.toList) = true := h1
    rw [if_pos h1', if_pos h1]
    have h2 := prefix2_len h1
    rw [list_size] at h2
    unfold lexer_octets.f
    rw [if_pos ⟨h2, by omega⟩, hA]
    have := octF_pos a0 h2
    simp only [Option.bind_some]
    rw [Int.toNat_of_nonneg this.1]
  have h1' : ¬ ((⟨#[120, 39]⟩ : ByteArray).data.toList.isPrefixOf a0.data.toList) = true := h1
  rw [if_neg h1', if_neg h1, hb]
  by_cases h2 : a0.data.toList.headD 0 = 39
  · rw [if_pos (show (((a0.data.toList.headD 0).toNat : Nat) : Int) = 39 by rw [h2]; rfl), if_pos h2]
    unfold lexer_text.f
    rw [if_pos (by omega)]
    have ht := txt_pos _ [] (a0.data.toList.drop 1) 1 (Nat.le_refl _)
    simp only [Option.bind_some]
    rw [Int.toNat_of_nonneg (by omega)]
  have h2' : ¬ (((a0.data.toList.headD 0).toNat : Nat) : Int) = 39 := by
    intro e
    have : (a0.data.toList.headD 0).toNat = 39 := by omega
    exact h2 (UInt8.toNat_inj.mp (by rw [this]; rfl))
  rw [if_neg h2', if_neg h2]
  by_cases h3 : letterB ((a0.data.toList.headD 0).toNat : Int) = true
  · rw [if_pos h3, if_pos h3]
    unfold run_part.f
    rw [if_pos (by omega)]
    have hl := headOf_le partB a0.data.toList
    rw [list_size] at hl
    simp only [Option.bind_some]
    by_cases h4 : 24 < headOf partB a0.data.toList
    · rw [if_pos (show (headOf partB a0.data.toList : Int) > 24 by omega), if_pos h4]; rfl
    · rw [if_neg (show ¬ (headOf partB a0.data.toList : Int) > 24 by omega), if_neg h4]
      unfold cutTok
      rw [if_pos ⟨by omega, by omega⟩, extract_eq]
      simp
  rw [if_neg h3, if_neg h3]
  by_cases h4 : digitB ((a0.data.toList.headD 0).toNat : Int) = true
  · rw [if_pos h4, if_pos h4, number_f a0 k h hs]
    have hl := numL_le a0.data.toList
    rw [list_size] at hl
    simp only [Option.bind_some]
    unfold cutTok
    rw [if_pos ⟨by omega, by omega⟩, extract_eq]
    simp
  rw [if_neg h4, if_neg h4]
  unfold signTok signL
  rw [hasP_list, hasP_list, hasP_list, hb]
  have e1 : ((a0.data.toList.headD 0).toNat : Int).toNat.toUInt8 = a0.data.toList.headD 0 := by simp
  rw [e1]
  have c1 : (⟨#[60, 62]⟩ : ByteArray).data.toList = [60, 62] := rfl
  have c2 : (⟨#[60, 61]⟩ : ByteArray).data.toList = [60, 61] := rfl
  have c3 : (⟨#[62, 61]⟩ : ByteArray).data.toList = [62, 61] := rfl
  rw [c1, c2, c3]
  by_cases p1 : [60, 62].isPrefixOf a0.data.toList = true
  · rw [if_pos p1, if_pos p1]; rfl
  rw [if_neg p1, if_neg p1]
  by_cases p2 : [60, 61].isPrefixOf a0.data.toList = true
  · rw [if_pos p2, if_pos p2]; rfl
  rw [if_neg p2, if_neg p2]
  by_cases p3 : [62, 61].isPrefixOf a0.data.toList = true
  · rw [if_pos p3, if_pos p3]; rfl
  rw [if_neg p3, if_neg p3]
  by_cases p4 : Lib.indexByte signs.data.toList (a0.data.toList.headD 0) < 0
  · rw [if_pos p4, if_pos p4]; rfl
  rw [if_neg p4, if_neg p4, extract_eq]
  simp
theorem next_le (s : List UInt8) (h : s ≠ []) : (nextL s).2.2 ≤ s.length := by
  have h0 := len_pos_of s h
  unfold nextL
  split
  · rename_i h1
    have := octF_pos ⟨s.toArray⟩ (by simpa [ByteArray.size] using prefix2_len h1)
    simp only [ByteArray.size, List.size_toArray] at this
    simp only []
    omega
  split
  · have ht := txt_pos _ [] (s.drop 1) 1 (Nat.le_refl _)
    simp only [List.length_drop] at ht
    simp only []
    omega
  split
  · split
    · simp
    · exact headOf_le partB s
  split
  · exact numL_le s
  unfold signL
  split
  · rename_i hp; exact prefix2_len hp
  split
  · rename_i hp; exact prefix2_len hp
  split
  · rename_i hp; exact prefix2_len hp
  split
  · simp
  · exact h0
end Go.Proofs.YtnmdlimpfckicaaDoor.L

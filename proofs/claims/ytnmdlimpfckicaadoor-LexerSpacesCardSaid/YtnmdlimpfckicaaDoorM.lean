/- A token stays the same if what stands behind it is cut off by a blank. -/
import Derived.Test.YtnmdlimpfckicaaDoorL
namespace Go.Proofs.YtnmdlimpfckicaaDoor.L
open Go.RowKit Go.Proofs.YtnmdlimpfckicaaDoor.Q Go.Proofs.YtnmdlimpfckicaaDoor.R Go.Proofs.YtnmdlimpfckicaaDoor.S Go.Proofs.YtnmdlimpfckicaaDoor.T Go.Proofs.YtnmdlimpfckicaaDoor.X Go.Proofs.YtnmdlimpfckicaaDoorW.PrintWords Go.Proofs.YtnmdlimpfckicaaDoorW.PrintLast Go.Proofs.YtnmdlimpfckicaaDoorW.PrintMore

theorem headOf_cut (p : Int → Bool) (c : UInt8) (hp : p (c.toNat : Int) = false) (z y : List UInt8) : ∀ x : List UInt8, headOf p (x ++ z) ≤ x.length → headOf p (x ++ c :: y) = headOf p (x ++ z)
  | [], h => by
    have h0 : headOf p z = 0 := by simpa using h
    rw [List.nil_append, List.nil_append, h0]
    unfold headOf
    rw [if_neg (by rw [hp]; simp)]
  | a :: x, h => by
    rw [List.cons_append, List.cons_append]
    rw [List.cons_append] at h
    unfold headOf at h ⊢
    split
    · rename_i ha
      rw [if_pos ha] at h
      rw [headOf_cut p c hp z y x (by simpa using h)]
    · rfl
theorem ib_cut (q : UInt8) (z w : List UInt8) : ∀ D : List UInt8, 0 ≤ Lib.indexByte (D ++ z) q → Lib.indexByte (D ++ z) q < D.length → Lib.indexByte (D ++ w) q = Lib.indexByte (D ++ z) q
  | [], h0, h1 => by
    rw [List.nil_append] at h0 h1
    rw [List.length_nil] at h1
    omega
  | a :: D, h0, h1 => by
    rw [List.cons_append] at h0 h1 ⊢
    rw [List.cons_append]
    unfold Lib.indexByte at h0 h1 ⊢
    split
    · rfl
    · rename_i ha
      rw [if_neg ha] at h0 h1
      split at h0
      · simp at h0
      · rename_i hm
        rw [if_neg hm] at h1
        have hge := Lib.indexByte_ge (D ++ z) q
        have hm' : Lib.indexByte (D ++ z) q ≠ -1 := by simpa using hm
        have := ib_cut q z w D (by omega) (by simp at h1; omega)
        rw [this]
theorem pre_same (p q : UInt8) (u v : List UInt8) : ∀ x : List UInt8, 2 ≤ x.length → [p, q].isPrefixOf (x ++ u) = [p, q].isPrefixOf (x ++ v)
  | [], h => by simp at h
  | [_], h => by simp at h
  | a :: b :: x, _ => by simp [List.isPrefixOf]
theorem pre_one (p q a c : UInt8) (y : List UInt8) (h : q ≠ c) : [p, q].isPrefixOf ([a] ++ c :: y) = false := by
  simp [List.isPrefixOf, h]
/-- A sign of two bytes that isn't at the beginning isn't there either if a blank stands behind. -/
theorem pre_cut (p q c : UInt8) (z y x : List UInt8) (hx : x ≠ []) (h : q ≠ c) (hn : ¬ [p, q].isPrefixOf (x ++ z) = true) : ¬ [p, q].isPrefixOf (x ++ c :: y) = true := by
  match x, hx with
  | [a], _ => rw [pre_one p q a c y h]; simp
  | a :: b :: x, _ => rw [pre_same p q (c :: y) z (a :: b :: x) (by simp)]; exact hn
theorem txt_cut (c : UInt8) (hc : c ≠ 39) (z y : List UInt8) : ∀ (m : Nat) (acc x : List UInt8) (i : Nat), x.length ≤ m → (txt acc (x ++ z) i).2 ≠ 0 → (txt acc (x ++ z) i).2 ≤ i + x.length → txt acc (x ++ c :: y) i = txt acc (x ++ z) i
  | _, acc, [], i, _, h0, h1 => by
    have := txt_pos _ acc z i (Nat.le_refl _)
    rw [List.nil_append] at h0 h1
    simp at h1
    omega
  | 0, _, _ :: _, _, h, _, _ => by simp at h
  | m + 1, acc, a :: x, i, hm, h0, h1 => by
    have hm' : x.length ≤ m := by simpa using hm
    rw [List.cons_append] at h0 h1 ⊢
    rw [List.cons_append]
    by_cases ha : a = 39
    · cases x with
      | nil =>
        rw [List.nil_append] at h0 h1 ⊢
        rw [List.nil_append]
        have hl : txt acc (a :: c :: y) i = if 200 < acc.length then (⟨#[]⟩, 0) else (⟨acc.toArray⟩, (i : Int) + 1) := by
          conv => lhs; unfold txt
          rw [if_pos ha]; simp only []; rw [if_neg hc]
        rw [hl]
        cases z with
        | nil =>
          conv => rhs; unfold txt
          rw [if_pos ha]
        | cons d q =>
          by_cases hd : d = 39
          · exfalso
            have e : txt acc (a :: d :: q) i = txt (acc ++ [39]) q (i + 2) := by
              conv => lhs; unfold txt
              rw [if_pos ha]; simp only []; rw [if_pos hd]
            rw [e] at h0 h1
            have := txt_pos _ (acc ++ [39]) q (i + 2) (Nat.le_refl _)
            simp at h1
            omega
          · conv => rhs; unfold txt
            rw [if_pos ha]; simp only []; rw [if_neg hd]
      | cons d x =>
        rw [List.cons_append] at h0 h1 ⊢
        rw [List.cons_append]
        by_cases hd : d = 39
        · have e : ∀ w, txt acc (a :: d :: w) i = txt (acc ++ [39]) w (i + 2) := by
            intro w
            conv => lhs; unfold txt
            rw [if_pos ha]; simp only []; rw [if_pos hd]
          rw [e] at h0 h1
          rw [e, e]
          exact txt_cut c hc z y m _ x (i + 2) (by simp at hm'; omega) h0 (by simp at h1; omega)
        · have e : ∀ w, txt acc (a :: d :: w) i = if 200 < acc.length then (⟨#[]⟩, 0) else (⟨acc.toArray⟩, (i : Int) + 1) := by
            intro w
            conv => lhs; unfold txt
            rw [if_pos ha]; simp only []; rw [if_neg hd]
          rw [e, e]
    · have e : ∀ w, txt acc (a :: w) i = txt (acc ++ [a]) w (i + 1) := by
        intro w
        conv => lhs; unfold txt
        rw [if_neg ha]
      rw [e] at h0 h1
      rw [e, e]
      exact txt_cut c hc z y m _ x (i + 1) hm' h0 (by simp at h1; omega)
theorem octF_cut (x z w : List UInt8) (h2 : 2 ≤ x.length) (h0 : (octF ⟨(x ++ z).toArray⟩).2.toNat ≠ 0) (h1 : (octF ⟨(x ++ z).toArray⟩).2.toNat ≤ x.length) : octF ⟨(x ++ w).toArray⟩ = octF ⟨(x ++ z).toArray⟩ := by
  unfold octF at h0 h1 ⊢
  simp only [] at h0 h1 ⊢
  rw [List.drop_append_of_le_length h2] at h0 h1 ⊢
  rw [List.drop_append_of_le_length h2]
  have hD : (x.drop 2).length = x.length - 2 := by simp
  by_cases hc : Lib.indexByte (x.drop 2 ++ z) 39 < 0 ∨ Lib.indexByte (x.drop 2 ++ z) 39 % 2 ≠ 0 ∨ 400 < Lib.indexByte (x.drop 2 ++ z) 39
  · rw [if_pos hc] at h0; exact absurd rfl h0
  · have e3 : (octRes (octs ((x.drop 2 ++ z).take (Lib.indexByte (x.drop 2 ++ z) 39).toNat)) (Lib.indexByte (x.drop 2 ++ z) 39)).2 = Lib.indexByte (x.drop 2 ++ z) 39 + 3 := by
      rw [if_neg hc] at h0
      generalize octs ((x.drop 2 ++ z).take (Lib.indexByte (x.drop 2 ++ z) 39).toNat) = o at h0 ⊢
      cases o with
      | none => exact absurd rfl h0
      | some l => rfl
    rw [if_neg hc, e3] at h1
    have hi := ib_cut 39 z w (x.drop 2) (by omega) (by omega)
    rw [hi, List.take_append_of_le_length (by omega), List.take_append_of_le_length (by omega)]
theorem drop_cut (x z : List UInt8) (n : Nat) (h : n ≤ x.length) : (x ++ z).drop n = x.drop n ++ z := List.drop_append_of_le_length h
theorem headZero_cut (x z y : List UInt8) (c : UInt8) (hx : x ≠ []) : headZero (x ++ c :: y) = headZero (x ++ z) := by
  cases x with
  | nil => exact absurd rfl hx
  | cons a x => rfl
theorem dotB_two (a b : UInt8) (x : List UInt8) : dotB (a :: b :: x) = (a == 46 && digitB (b.toNat : Int)) := rfl
theorem digit_head (d : UInt8) (x : List UInt8) (h : digitB (d.toNat : Int) = true) : 0 < headOf digitB (d :: x) := by
  unfold headOf; rw [if_pos h]; omega
theorem numL_cut (c : UInt8) (hc : digitB (c.toNat : Int) = false) (hc2 : c ≠ 46) (x z y : List UInt8) (hx : x ≠ []) (h0 : numL (x ++ z) ≠ 0) (h1 : numL (x ++ z) ≤ x.length) : numL (x ++ c :: y) = numL (x ++ z) := by
  have hle : headOf digitB (x ++ z) ≤ x.length := by
    unfold numL at h0 h1
    split at h0
    · exact absurd rfl h0
    · rename_i hz
      rw [if_neg hz] at h1
      split at h0
      · rename_i hd
        rw [if_pos hd] at h1
        split at h0
        · exact absurd rfl h0
        · rename_i h4
          rw [if_neg h4] at h1
          omega
      · rename_i hd
        rw [if_neg hd] at h1
        exact h1
  have hh := headOf_cut digitB c hc z y x hle
  unfold numL at h0 h1 ⊢
  rw [hh, headZero_cut x z y c hx]
  split
  · rfl
  rename_i hz
  rw [if_neg hz] at h0 h1
  generalize hn : headOf digitB (x ++ z) = n at *
  rw [drop_cut x (c :: y) n hle, drop_cut x z n hle]
  rw [drop_cut x z n hle] at h0 h1
  have hDl : (x.drop n).length = x.length - n := by simp
  have hdot : dotB (x.drop n ++ c :: y) = dotB (x.drop n ++ z) := by
    match hD : x.drop n with
    | [] =>
      rw [hD] at h0 h1 hDl
      have hz2 : dotB ([] ++ z) = false := by
        cases hd : dotB ([] ++ z) with
        | false => rfl
        | true =>
          exfalso
          rw [if_pos hd] at h0 h1
          split at h0
          · exact absurd rfl h0
          · rename_i h4
            rw [if_neg h4] at h1
            simp at hDl
            omega
      rw [hz2]
      cases y with
      | nil => rfl
      | cons d y => rw [List.nil_append, dotB_two]; simp [hc2]
    | [d] =>
      rw [hD] at h0 h1 hDl
      have hz2 : dotB ([d] ++ z) = false := by
        cases hd : dotB ([d] ++ z) with
        | false => rfl
        | true =>
          exfalso
          rw [if_pos hd] at h0 h1
          have hnl : n + 1 = x.length := by simp at hDl; omega
          have hdz : (x ++ z).drop (n + 1) = z := by rw [hnl]; simp
          rw [hdz] at h0 h1
          cases z with
          | nil => simp [dotB] at hd
          | cons e z =>
            rw [List.cons_append, List.nil_append, dotB_two] at hd
            have he : digitB (e.toNat : Int) = true := by
              rw [Bool.and_eq_true] at hd; exact hd.2
            have hp := digit_head e z he
            split at h0
            · exact absurd rfl h0
            · rename_i h4
              rw [if_neg h4] at h1
              omega
      rw [hz2, List.cons_append, List.nil_append, dotB_two, hc]
      simp
    | d :: e :: r => rfl
  rw [hdot]
  by_cases hd : dotB (x.drop n ++ z) = true
  · rw [if_pos hd, if_pos hd]
    rw [if_pos hd] at h0 h1
    by_cases h4 : 4 < headOf digitB ((x ++ z).drop (n + 1))
    · rw [if_pos h4] at h0; exact absurd rfl h0
    · rw [if_neg h4] at h1
      have hle2 : n + 1 ≤ x.length := by omega
      rw [drop_cut x z (n + 1) hle2] at h1 h4 ⊢
      rw [drop_cut x (c :: y) (n + 1) hle2]
      rw [headOf_cut digitB c hc z y (x.drop (n + 1)) (by simp; omega)]
  · rw [if_neg hd, if_neg hd]
theorem headD_cut (x u v : List UInt8) (hx : x ≠ []) : (x ++ u).headD 0 = (x ++ v).headD 0 := by
  cases x with
  | nil => exact absurd rfl hx
  | cons a x => rfl
theorem sign_cut (c : UInt8) (hc : c = 9 ∨ c = 10) (x z y : List UInt8) (hx : x ≠ []) (h1 : (signL (x ++ z)).2.2 ≤ x.length) : signL (x ++ c :: y) = signL (x ++ z) := by
  have n1 : (62 : UInt8) ≠ c := by rcases hc with rfl | rfl <;> decide
  have n2 : (61 : UInt8) ≠ c := by rcases hc with rfl | rfl <;> decide
  unfold signL at h1 ⊢
  by_cases p1 : [60, 62].isPrefixOf (x ++ z) = true
  · rw [if_pos p1] at h1
    rw [if_pos p1, if_pos (by rw [pre_same 60 62 (c :: y) z x h1]; exact p1)]
  rw [if_neg p1] at h1
  rw [if_neg p1, if_neg (pre_cut 60 62 c z y x hx n1 p1)]
  by_cases p2 : [60, 61].isPrefixOf (x ++ z) = true
  · rw [if_pos p2] at h1
    rw [if_pos p2, if_pos (by rw [pre_same 60 61 (c :: y) z x h1]; exact p2)]
  rw [if_neg p2] at h1
  rw [if_neg p2, if_neg (pre_cut 60 61 c z y x hx n2 p2)]
  by_cases p3 : [62, 61].isPrefixOf (x ++ z) = true
  · rw [if_pos p3] at h1
    rw [if_pos p3, if_pos (by rw [pre_same 62 61 (c :: y) z x h1]; exact p3)]
  rw [if_neg p3] at h1
  rw [if_neg p3, if_neg (pre_cut 62 61 c z y x hx n2 p3)]
  rw [headD_cut x (c :: y) z hx]
  have hl := len_pos_of x hx
  rw [List.take_append_of_le_length hl, List.take_append_of_le_length hl]
theorem next_cut (c : UInt8) (hc : c = 9 ∨ c = 10) (x z y : List UInt8) (h0 : (nextL (x ++ z)).2.2 ≠ 0) (h1 : (nextL (x ++ z)).2.2 ≤ x.length) : nextL (x ++ c :: y) = nextL (x ++ z) := by
  have hx : x ≠ [] := by rintro rfl; simp at h1; exact h0 h1
  have n1 : (39 : UInt8) ≠ c := by rcases hc with rfl | rfl <;> decide
  have c39 : c ≠ 39 := n1.symm
  have c46 : c ≠ 46 := by rcases hc with rfl | rfl <;> decide
  have cp : partB (c.toNat : Int) = false := by rcases hc with rfl | rfl <;> decide
  have cd : digitB (c.toNat : Int) = false := by rcases hc with rfl | rfl <;> decide
  unfold nextL at h0 h1 ⊢
  by_cases p1 : [120, 39].isPrefixOf (x ++ z) = true
  · rw [if_pos p1] at h0 h1
    simp only [] at h0 h1
    have h2 : 2 ≤ x.length := by
      have := octF_cut
      unfold octF octRes at h0 h1
      split at h0
      · exact absurd rfl h0
      · rename_i hc'
        rw [if_neg hc'] at h1
        split at h0
        · exact absurd rfl h0
        · rename_i l hl
          rw [hl] at h1
          have e : (⟨(x ++ z).toArray⟩ : ByteArray).data.toList = x ++ z := rfl
          rw [e] at h1 hc'
          simp only [] at h1
          omega
    have he := octF_cut x z (c :: y) h2 h0 h1
    rw [if_pos p1, if_pos (by rw [pre_same 120 39 (c :: y) z x h2]; exact p1), he]
  rw [if_neg p1] at h0 h1
  rw [if_neg p1, if_neg (pre_cut 120 39 c z y x hx n1 p1), headD_cut x (c :: y) z hx]
  by_cases p2 : (x ++ z).headD 0 = 39
  · rw [if_pos p2] at h0 h1
    simp only [] at h0 h1
    rw [if_pos p2, if_pos p2]
    have hl := len_pos_of x hx
    rw [drop_cut x z 1 hl] at h0 h1 ⊢
    rw [drop_cut x (c :: y) 1 hl]
    have hp := txt_pos _ [] (x.drop 1 ++ z) 1 (Nat.le_refl _)
    rw [txt_cut c c39 z y _ [] (x.drop 1) 1 (Nat.le_refl _) (by omega) (by rw [List.length_drop]; omega)]
  rw [if_neg p2] at h0 h1
  rw [if_neg p2, if_neg p2]
  by_cases p3 : letterB (((x ++ z).headD 0).toNat : Int) = true
  · rw [if_pos p3] at h0 h1
    rw [if_pos p3, if_pos p3]
    by_cases p4 : 24 < headOf partB (x ++ z)
    · rw [if_pos p4] at h0; exact absurd rfl h0
    rw [if_neg p4] at h1
    have e := headOf_cut partB c cp z y x h1
    rw [e, if_neg p4, if_neg p4]
    simp only [] at h1
    rw [List.take_append_of_le_length h1, List.take_append_of_le_length h1]
  rw [if_neg p3] at h0 h1
  rw [if_neg p3, if_neg p3]
  by_cases p5 : digitB (((x ++ z).headD 0).toNat : Int) = true
  · rw [if_pos p5] at h0 h1
    rw [if_pos p5, if_pos p5, numL_cut c cd c46 x z y hx h0 h1]
    simp only [] at h1
    rw [List.take_append_of_le_length h1, List.take_append_of_le_length h1]
  rw [if_neg p5] at h0 h1
  rw [if_neg p5, if_neg p5]
  exact sign_cut c hc x z y hx h1
end Go.Proofs.YtnmdlimpfckicaaDoor.L

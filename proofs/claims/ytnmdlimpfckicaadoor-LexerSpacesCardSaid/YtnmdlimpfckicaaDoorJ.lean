/- Texts that are joined by a line break, in plain Lean. -/
import Derived.Test.YtnmdlimpfckicaaDoorK
namespace Go.Proofs.YtnmdlimpfckicaaDoor.L
open Go.RowKit Go.Proofs.YtnmdlimpfckicaaDoor.Q Go.Proofs.YtnmdlimpfckicaaDoor.R Go.Proofs.YtnmdlimpfckicaaDoor.S Go.Proofs.YtnmdlimpfckicaaDoor.T Go.Proofs.YtnmdlimpfckicaaDoor.X Go.Proofs.YtnmdlimpfckicaaDoorW.PrintWords Go.Proofs.YtnmdlimpfckicaaDoorW.PrintLast Go.Proofs.YtnmdlimpfckicaaDoorW.PrintMore

theorem run_fuel : ∀ (f g : Nat) (s : List UInt8) (p : Int), s.length ≤ f → s.length ≤ g → run f s p = run g s p
  | 0, g, s, p, hf, _ => by
    have e : s = [] := List.eq_nil_of_length_eq_zero (by omega)
    rw [e, run_nil, run_nil]
  | f + 1, 0, s, p, _, hg => by
    have e : s = [] := List.eq_nil_of_length_eq_zero (by omega)
    rw [e, run_nil, run_nil]
  | f + 1, g + 1, s, p, hf, hg => by
    by_cases h0 : s = []
    · rw [h0, run_nil, run_nil]
    · unfold run
      rw [if_neg h0, if_neg h0]
      by_cases h1 : (nextL s).2.2 = 0
      · rw [if_pos h1, if_pos h1]
      · rw [if_neg h1, if_neg h1]
        rw [run_fuel f g (s.drop ((nextL s).2.2 + sk false (s.drop (nextL s).2.2))) _ (by rw [List.length_drop]; omega) (by rw [List.length_drop]; omega)]
/-- A token that stands further on. -/
def sh (d : Int) (t : S32) : S32 := ⟨t.f0, t.f1, t.f2 + d⟩
def shR (d : Int) (q : List S32 × Int × Int) : List S32 × Int × Int := if q.2.1 = 0 then (q.1.map (sh d), 0, 0) else ([], q.2.1, q.2.2 + d)
theorem run_shift (d : Int) : ∀ (f : Nat) (s : List UInt8) (p : Int), run f s (p + d) = shR d (run f s p)
  | 0, _, _ => rfl
  | f + 1, s, p => by
    unfold run
    by_cases h0 : s = []
    · rw [if_pos h0, if_pos h0]; rfl
    rw [if_neg h0, if_neg h0]
    by_cases h1 : (nextL s).2.2 = 0
    · rw [if_pos h1, if_pos h1]; rfl
    rw [if_neg h1, if_neg h1]
    generalize (nextL s).2.2 + sk false (s.drop (nextL s).2.2) = m
    have e : p + d + (m : Int) = p + (m : Int) + d := by omega
    rw [e, run_shift d f (s.drop m) (p + m)]
    generalize run f (s.drop m) (p + m) = q
    by_cases hq : q.2.1 = 0
    · have e1 : (shR d q).2.1 = 0 := by unfold shR; rw [if_pos hq]
      have e2 : (shR d q).1 = q.1.map (sh d) := by unfold shR; rw [if_pos hq]
      rw [if_pos e1, if_pos hq, e2]; rfl
    · have e1 : (shR d q).2 = (q.2.1, q.2.2 + d) := by unfold shR; rw [if_neg hq]
      rw [if_neg (by rw [e1]; exact hq), if_neg hq, e1]
      unfold shR; rw [if_neg hq]
theorem sk_join (b : List UInt8) : ∀ (m : Bool) (x : List UInt8), sk m (x ++ 10 :: b) = if sk m x = x.length then x.length + 1 + sk false b else sk m x
  | true, [] => by
    have e : sk true (10 :: b) = sk false b + 1 := by conv => lhs; unfold sk
                                                      rw [if_pos rfl]
    rw [List.nil_append, e, if_pos (by unfold sk; rfl)]; simp only [List.length_nil]; omega
  | false, [] => by
    have e : sk false (10 :: b) = sk false b + 1 := by conv => lhs; unfold sk
                                                       rw [if_pos (by decide)]
    rw [List.nil_append, e, if_pos (by unfold sk; rfl)]; simp only [List.length_nil]; omega
  | true, c :: r => by
    have ih1 := sk_join b true r
    have ih2 := sk_join b false r
    rw [List.cons_append]
    generalize sk false b = zb at ih1 ih2 ⊢
    unfold sk
    by_cases hc : c = 10
    · rw [if_pos hc, if_pos hc, ih2, List.length_cons]
      by_cases h : sk false r = r.length
      · rw [if_pos h, if_pos (by omega)]; omega
      · rw [if_neg h, if_neg (by omega)]
    · rw [if_neg hc, if_neg hc, ih1, List.length_cons]
      by_cases h : sk true r = r.length
      · rw [if_pos h, if_pos (by omega)]; omega
      · rw [if_neg h, if_neg (by omega)]
  | false, c :: r => by
    have ih1 := sk_join b true r
    have ih2 := sk_join b false r
    rw [List.cons_append]
    generalize sk false b = zb at ih1 ih2 ⊢
    unfold sk
    by_cases hc : blankB (c.toNat : Int) = true
    · rw [if_pos hc, if_pos hc, ih2, List.length_cons]
      by_cases h : sk false r = r.length
      · rw [if_pos h, if_pos (by omega)]; omega
      · rw [if_neg h, if_neg (by omega)]
    · rw [if_neg hc, if_neg hc, List.length_cons]
      have hh : ((r ++ 10 :: b).headD 0 = 45) ↔ (r.headD 0 = 45) := by
        cases r with
        | nil => simp
        | cons d r => simp
      by_cases h45 : c = 45 ∧ r.headD 0 = 45
      · rw [if_pos ⟨h45.1, hh.mpr h45.2⟩, if_pos h45, ih1]
        by_cases h : sk true r = r.length
        · rw [if_pos h, if_pos (by omega)]; omega
        · rw [if_neg h, if_neg (by omega)]
      · rw [if_neg (fun h => h45 ⟨h.1, hh.mp h.2⟩), if_neg h45, if_neg (by omega)]
theorem run_join (b : List UInt8) : ∀ (f g : Nat) (s : List UInt8) (p : Int), s ≠ [] → (run f s p).2.1 = 0 → s.length ≤ f → (s ++ 10 :: b).length ≤ g →
    run g (s ++ 10 :: b) p = if (run g (b.drop (sk false b)) (p + (s.length + 1 + sk false b : Nat))).2.1 = 0 then ((run f s p).1 ++ (run g (b.drop (sk false b)) (p + (s.length + 1 + sk false b : Nat))).1, 0, 0) else ([], (run g (b.drop (sk false b)) (p + (s.length + 1 + sk false b : Nat))).2)
  | 0, _, s, _, h, _, hl, _ => absurd (List.eq_nil_of_length_eq_zero (Nat.le_zero.mp hl)) h
  | _ + 1, 0, s, _, _, _, _, hg => by rw [List.length_append, List.length_cons] at hg; omega
  | f + 1, g + 1, s, p, hs, he, hf, hg => by
    have hbl := sk_le false b
    have hne : s ++ 10 :: b ≠ [] := by simp
    have hle := next_le s hs
    have hlp := len_pos_of s hs
    have hR : run (g + 1) (b.drop (sk false b)) (p + (s.length + 1 + sk false b : Nat)) = run g (b.drop (sk false b)) (p + (s.length + 1 + sk false b : Nat)) := by
      rw [List.length_append, List.length_cons] at hg
      exact run_fuel _ _ _ _ (by rw [List.length_drop]; omega) (by rw [List.length_drop]; omega)
    rw [hR]
    have hrun : ∀ w, w ≠ [] → ∀ m p, run (m + 1) w p = if (nextL w).2.2 = 0 then ([], 290, p) else
        if (run m (w.drop ((nextL w).2.2 + sk false (w.drop (nextL w).2.2))) (p + ((nextL w).2.2 + sk false (w.drop (nextL w).2.2) : Nat))).2.1 = 0 then
          (⟨(nextL w).1, (nextL w).2.1, p⟩ :: (run m (w.drop ((nextL w).2.2 + sk false (w.drop (nextL w).2.2))) (p + ((nextL w).2.2 + sk false (w.drop (nextL w).2.2) : Nat))).1, 0, 0)
        else ([], (run m (w.drop ((nextL w).2.2 + sk false (w.drop (nextL w).2.2))) (p + ((nextL w).2.2 + sk false (w.drop (nextL w).2.2) : Nat))).2) := by
      intro w hw m p
      conv => lhs; unfold run
      rw [if_neg hw]
    rw [hrun s hs f p] at he
    rw [hrun s hs f p, hrun _ hne g p]
    have h0 : (nextL s).2.2 ≠ 0 := by
      intro h; rw [if_pos h] at he; simp at he
    have hnx : nextL (s ++ 10 :: b) = nextL s := by
      have := next_cut 10 (Or.inr rfl) s [] b (by rw [List.append_nil]; exact h0) (by rw [List.append_nil]; exact hle)
      rw [List.append_nil] at this
      exact this
    rw [hnx]
    rw [if_neg h0] at he
    rw [if_neg h0, if_neg h0]
    have hdn : (s ++ 10 :: b).drop (nextL s).2.2 = s.drop (nextL s).2.2 ++ 10 :: b := drop_cut s _ _ hle
    rw [hdn, sk_join b false (s.drop (nextL s).2.2), List.length_drop]
    generalize hT : (⟨(nextL s).1, (nextL s).2.1, p⟩ : S32) = T at he ⊢
    generalize (nextL s).2.2 = n at h0 hle he hdn ⊢
    have hml := sk_le false (s.drop n)
    rw [List.length_drop] at hml
    generalize sk false (s.drop n) = m at hml he ⊢
    by_cases hm : m = s.length - n
    · rw [if_pos hm]
      have e1 : n + m = s.length := by omega
      have e2 : n + (s.length - n + 1 + sk false b) = s.length + 1 + sk false b := by omega
      have e3 : (s ++ 10 :: b).drop (s.length + 1 + sk false b) = b.drop (sk false b) := by
        have : s.length + 1 + sk false b = s.length + (1 + sk false b) := by omega
        rw [this, List.drop_append, ]
        rw [List.drop_of_length_le (by omega), List.nil_append]
        have : s.length + (1 + sk false b) - s.length = sk false b + 1 := by omega
        rw [this, List.drop_succ_cons]
      rw [e1, e2, e3, List.drop_length, run_nil, if_pos rfl]
      rfl
    · rw [if_neg hm]
      have hne2 : s.drop (n + m) ≠ [] := by
        intro h; have := congrArg List.length h
        rw [List.length_drop, List.length_nil] at this
        omega
      have hd2 : (s ++ 10 :: b).drop (n + m) = s.drop (n + m) ++ 10 :: b := drop_cut s _ _ (by omega)
      rw [hd2]
      have he2 : (run f (s.drop (n + m)) (p + (n + m : Nat))).2.1 = 0 := by
        apply Classical.byContradiction; intro hc
        rw [if_neg hc] at he
        exact hc he
      rw [if_pos he2]
      have ih := run_join b f g (s.drop (n + m)) (p + (n + m : Nat)) hne2 he2 (by rw [List.length_drop]; omega)
        (by rw [List.length_append, List.length_drop]; rw [List.length_append] at hg; omega)
      have e4 : p + ((n + m : Nat) : Int) + (((s.drop (n + m)).length + 1 + sk false b : Nat) : Int) = p + ((s.length + 1 + sk false b : Nat) : Int) := by
        rw [List.length_drop]; omega
      rw [ih, e4]
      generalize run g (b.drop (sk false b)) (p + ((s.length + 1 + sk false b : Nat) : Int)) = q
      by_cases hq : q.2.1 = 0
      · rw [if_pos hq, if_pos hq, if_pos rfl]; rfl
      · rw [if_neg hq, if_neg hq, if_neg hq]
theorem shR_zero (d : Int) (q : List S32 × Int × Int) : (shR d q).2.1 = q.2.1 := by
  unfold shR
  split
  · rename_i h; exact h.symm
  · rfl
theorem toks_join (a b : List UInt8) (h : (toks a).2.1 = 0) : toks (a ++ 10 :: b) = if (toks b).2.1 = 0 then ((toks a).1 ++ (toks b).1.map (sh (a.length + 1 : Nat)), 0, 0) else ([], (toks b).2.1, (toks b).2.2 + ((a.length + 1 : Nat) : Int)) := by
  have hal := sk_le false a
  have hbl := sk_le false b
  have hsh : shR (a.length + 1 : Nat) (toks b) = run (a ++ 10 :: b).length (b.drop (sk false b)) ((a.length + 1 + sk false b : Nat) : Int) := by
    have e : ((a.length + 1 + sk false b : Nat) : Int) = ((sk false b : Nat) : Int) + ((a.length + 1 : Nat) : Int) := by omega
    rw [e, run_shift]
    unfold toks
    rw [run_fuel b.length (a ++ 10 :: b).length _ _ (by rw [List.length_drop]; omega) (by rw [List.length_drop, List.length_append, List.length_cons]; omega)]
  have hgoal : (if (toks b).2.1 = 0 then ((toks a).1 ++ (toks b).1.map (sh (a.length + 1 : Nat)), 0, 0) else ([], (toks b).2.1, (toks b).2.2 + ((a.length + 1 : Nat) : Int))) =
      (if (shR (a.length + 1 : Nat) (toks b)).2.1 = 0 then ((toks a).1 ++ (shR (a.length + 1 : Nat) (toks b)).1, 0, 0) else ([], (shR (a.length + 1 : Nat) (toks b)).2)) := by
    rw [shR_zero]
    by_cases hq : (toks b).2.1 = 0
    · rw [if_pos hq, if_pos hq]; unfold shR; rw [if_pos hq]
    · rw [if_neg hq, if_neg hq]; unfold shR; rw [if_neg hq]
  rw [hgoal, hsh]
  have hzero : ∀ f s p, (if (run f s p).2.1 = 0 then ((run f s p).1, (0 : Int), (0 : Int)) else ([], (run f s p).2)) = run f s p := by
    intro f s p
    have h1 := run_zero f s p
    have h2 := run_bad f s p
    generalize run f s p = q at h1 h2
    obtain ⟨q1, q2⟩ := q
    by_cases hq : q2.1 = 0
    · rw [if_pos hq]; have := h1 hq; simp only [] at this; rw [this]
    · rw [if_neg hq]; have := (h2 hq).1; simp only [] at this; rw [this]
  have hL : toks (a ++ 10 :: b) = run (a ++ 10 :: b).length ((a ++ 10 :: b).drop (sk false (a ++ 10 :: b))) (sk false (a ++ 10 :: b) : Nat) := rfl
  rw [hL, sk_join b false a]
  by_cases hm : sk false a = a.length
  · rw [if_pos hm]
    have e3 : (a ++ 10 :: b).drop (a.length + 1 + sk false b) = b.drop (sk false b) := by
      rw [List.drop_append, List.drop_of_length_le (by omega), List.nil_append]
      have : a.length + 1 + sk false b - a.length = sk false b + 1 := by omega
      rw [this, List.drop_succ_cons]
    have e5 : toks a = ([], 0, 0) := by unfold toks; rw [hm, List.drop_length, run_nil]
    rw [e3, e5]
    simp only [List.nil_append]
    exact (hzero _ _ _).symm
  · rw [if_neg hm, drop_cut a _ _ hal]
    have hne : a.drop (sk false a) ≠ [] := by
      intro h; have := congrArg List.length h
      rw [List.length_drop, List.length_nil] at this
      omega
    rw [run_join b a.length (a ++ 10 :: b).length (a.drop (sk false a)) _ hne h (by rw [List.length_drop]; omega) (by rw [List.length_append, List.length_append, List.length_drop]; omega)]
    have e6 : ((sk false a : Nat) : Int) + (((a.drop (sk false a)).length + 1 + sk false b : Nat) : Int) = ((a.length + 1 + sk false b : Nat) : Int) := by
      rw [List.length_drop]; omega
    rw [e6]
    rfl
/-- Where tokens and faults stand. -/
theorem run_pos : ∀ (f : Nat) (s : List UInt8) (p : Int), (∀ t ∈ (run f s p).1, p ≤ t.f2 ∧ t.f2 ≤ p + s.length) ∧ ((run f s p).2.1 ≠ 0 → p ≤ (run f s p).2.2 ∧ (run f s p).2.2 ≤ p + s.length)
  | 0, _, _ => ⟨by simp [run], fun h => absurd rfl h⟩
  | f + 1, s, p => by
    unfold run
    by_cases h0 : s = []
    · rw [if_pos h0]; exact ⟨by simp, fun h => absurd rfl h⟩
    rw [if_neg h0]
    by_cases h1 : (nextL s).2.2 = 0
    · rw [if_pos h1]; exact ⟨by simp, fun _ => ⟨by simp, by simp; omega⟩⟩
    rw [if_neg h1]
    have hle := next_le s h0
    have hml := sk_le false (s.drop (nextL s).2.2)
    rw [List.length_drop] at hml
    have hm : (nextL s).2.2 + sk false (s.drop (nextL s).2.2) ≤ s.length := by omega
    generalize (nextL s).2.2 + sk false (s.drop (nextL s).2.2) = m at hm
    have ih := run_pos f (s.drop m) (p + m)
    rw [List.length_drop] at ih
    generalize run f (s.drop m) (p + m) = q at ih
    by_cases hq : q.2.1 = 0
    · rw [if_pos hq]
      refine ⟨?_, fun h => absurd rfl h⟩
      intro t ht
      rcases List.mem_cons.mp ht with rfl | ht
      · exact ⟨Int.le_refl _, by simp only []; omega⟩
      · have := ih.1 t ht; omega
    · rw [if_neg hq]
      refine ⟨by simp, fun _ => ?_⟩
      have := ih.2 hq
      simp only []
      omega
theorem toks_pos (l : List UInt8) : (∀ t ∈ (toks l).1, 0 ≤ t.f2 ∧ t.f2 ≤ l.length) ∧ ((toks l).2.1 ≠ 0 → 0 ≤ (toks l).2.2 ∧ (toks l).2.2 ≤ l.length) := by
  have h := run_pos l.length (l.drop (sk false l)) (sk false l : Nat)
  have hl := sk_le false l
  rw [List.length_drop] at h
  unfold toks
  generalize run l.length (l.drop (sk false l)) (sk false l : Nat) = q at h
  refine ⟨fun t ht => ?_, fun hq => ?_⟩
  · have := h.1 t ht; omega
  · have := h.2 hq; omega
theorem toks_zero (l : List UInt8) (h : (toks l).2.1 = 0) : (toks l).2 = (0, 0) := run_zero _ _ _ h
theorem run_count : ∀ (f : Nat) (s : List UInt8) (p : Int), (run f s p).1.length ≤ f
  | 0, _, _ => Nat.le_refl _
  | f + 1, s, p => by
    unfold run
    split
    · exact Nat.zero_le _
    split
    · exact Nat.zero_le _
    split
    · rw [List.length_cons]
      have := run_count f (s.drop ((nextL s).2.2 + sk false (s.drop (nextL s).2.2))) (p + ((nextL s).2.2 + sk false (s.drop (nextL s).2.2) : Nat))
      omega
    · exact Nat.zero_le _
theorem toks_count (l : List UInt8) : (toks l).1.length ≤ l.length := run_count _ _ _
end Go.Proofs.YtnmdlimpfckicaaDoor.L

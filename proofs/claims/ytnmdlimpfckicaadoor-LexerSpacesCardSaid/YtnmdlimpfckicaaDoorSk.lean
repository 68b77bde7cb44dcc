/- Tokens put behind one another, each behind a blank and a note: plain Lean over lists of bytes. -/
import Derived.Test.YtnmdlimpfckicaaDoorJ
namespace Go.Proofs.YtnmdlimpfckicaaDoor.L
open Go.RowKit Go.Proofs.YtnmdlimpfckicaaDoor.Q Go.Proofs.YtnmdlimpfckicaaDoor.R Go.Proofs.YtnmdlimpfckicaaDoor.S Go.Proofs.YtnmdlimpfckicaaDoor.T Go.Proofs.YtnmdlimpfckicaaDoor.X Go.Proofs.YtnmdlimpfckicaaDoorW.PrintWords Go.Proofs.YtnmdlimpfckicaaDoorW.PrintLast Go.Proofs.YtnmdlimpfckicaaDoorW.PrintMore

theorem sk_t10 (r : List UInt8) : sk true (10 :: r) = sk false r + 1 := by conv => lhs; unfold sk
                                                                           rw [if_pos rfl]
theorem sk_tc (c : UInt8) (r : List UInt8) (h : c ≠ 10) : sk true (c :: r) = sk true r + 1 := by conv => lhs; unfold sk
                                                                                                 rw [if_neg h]
theorem sk_fb (c : UInt8) (r : List UInt8) (h : blankB (c.toNat : Int) = true) : sk false (c :: r) = sk false r + 1 := by conv => lhs; unfold sk
                                                                                                                          rw [if_pos h]
theorem sk_fn (c : UInt8) (r : List UInt8) (h : blankB (c.toNat : Int) = false) (h2 : c = 45 ∧ r.headD 0 = 45) : sk false (c :: r) = sk true r + 1 := by
  conv => lhs; unfold sk
  rw [if_neg (by rw [h]; simp), if_pos h2]
theorem sk_f0 (c : UInt8) (r : List UInt8) (h : blankB (c.toNat : Int) = false) (h2 : ¬ (c = 45 ∧ r.headD 0 = 45)) : sk false (c :: r) = 0 := by
  conv => lhs; unfold sk
  rw [if_neg (by rw [h]; simp), if_neg h2]
/-- Behind what is skipped nothing is to be skipped. -/
theorem sk_again : ∀ (m : Bool) (l : List UInt8), sk false (l.drop (sk m l)) = 0
  | true, [] => rfl
  | false, [] => rfl
  | true, c :: r => by
    by_cases h : c = 10
    · subst h; rw [sk_t10, List.drop_succ_cons]; exact sk_again false r
    · rw [sk_tc c r h, List.drop_succ_cons]; exact sk_again true r
  | false, c :: r => by
    cases h : blankB (c.toNat : Int) with
    | true => rw [sk_fb c r h, List.drop_succ_cons]; exact sk_again false r
    | false =>
      by_cases h2 : c = 45 ∧ r.headD 0 = 45
      · rw [sk_fn c r h h2, List.drop_succ_cons]; exact sk_again true r
      · rw [sk_f0 c r h h2, List.drop_zero, sk_f0 c r h h2]
theorem sk_true_pos (z : List UInt8) (h : z ≠ []) : sk true z ≠ 0 := by
  cases z with
  | nil => exact absurd rfl h
  | cons c r =>
    by_cases hc : c = 10
    · subst hc; rw [sk_t10]; omega
    · rw [sk_tc c r hc]; omega
theorem headD_app (r z w : List UInt8) (h : r ≠ []) : (r ++ z).headD 0 = (r ++ w).headD 0 := by
  cases r with
  | nil => exact absurd rfl h
  | cons c r => rfl
/-- Blanks and notes that end stay so, whatever stands behind. -/
theorem sk_glue (z w : List UInt8) (hz : z ≠ []) : ∀ (m : Bool) (u : List UInt8), sk m (u ++ z) = u.length → sk m (u ++ w) = u.length + sk false w
  | true, [], h => by
    rw [List.nil_append, List.length_nil] at h
    exact absurd h (sk_true_pos z hz)
  | false, [], _ => by rw [List.nil_append, List.length_nil]; omega
  | true, c :: r, h => by
    rw [List.cons_append] at h ⊢
    rw [List.length_cons] at h ⊢
    by_cases hc : c = 10
    · subst hc
      rw [sk_t10] at h ⊢
      rw [sk_glue z w hz false r (by omega)]; omega
    · rw [sk_tc c _ hc] at h ⊢
      rw [sk_glue z w hz true r (by omega)]; omega
  | false, c :: r, h => by
    rw [List.cons_append] at h ⊢
    rw [List.length_cons] at h ⊢
    cases hb : blankB (c.toNat : Int) with
    | true =>
      rw [sk_fb c _ hb] at h ⊢
      rw [sk_glue z w hz false r (by omega)]; omega
    | false =>
      by_cases h2 : c = 45 ∧ (r ++ z).headD 0 = 45
      · rw [sk_fn c _ hb h2] at h
        have hr : r ≠ [] := by
          rintro rfl
          rw [List.nil_append, List.length_nil] at h
          exact sk_true_pos z hz (by omega)
        rw [sk_fn c _ hb ⟨h2.1, by rw [← headD_app r z w hr]; exact h2.2⟩, sk_glue z w hz true r (by omega)]; omega
      · rw [sk_f0 c _ hb h2] at h; omega
/-- A blank and a note. -/
def pre (note : List UInt8) : List UInt8 := 9 :: 32 :: 45 :: 45 :: (note ++ [10, 32])
theorem sk_noteline (note y : List UInt8) (hn : ∀ c ∈ note, c ≠ 10) : sk true (note ++ 10 :: 32 :: y) = note.length + 2 + sk false y := by
  induction note with
  | nil =>
    rw [List.nil_append, sk_t10, sk_fb 32 y (by decide), List.length_nil]; omega
  | cons c r ih =>
    rw [List.cons_append, sk_tc c _ (hn c (List.mem_cons_self ..)), ih (fun d hd => hn d (List.mem_cons_of_mem _ hd)), List.length_cons]; omega
theorem sk_pre_app (note y : List UInt8) (hn : ∀ c ∈ note, c ≠ 10) : sk false (pre note ++ y) = (pre note).length + sk false y := by
  have e : pre note ++ y = 9 :: 32 :: 45 :: 45 :: (note ++ 10 :: 32 :: y) := by
    unfold pre; simp
  have el : (pre note).length = note.length + 6 := by unfold pre; simp
  rw [e, sk_fb 9 _ (by decide), sk_fb 32 _ (by decide), sk_fn 45 _ (by decide) ⟨rfl, rfl⟩, sk_tc 45 _ (by decide), sk_noteline note y hn, el]; omega
/-- The tokens' texts, each with what is skipped behind it, each behind a blank and a note. -/
def wideL (note : List UInt8) : Nat → List UInt8 → List UInt8
  | 0, _ => []
  | f + 1, s => if s = [] then [] else pre note ++ (s.take ((nextL s).2.2 + sk false (s.drop (nextL s).2.2)) ++ wideL note f (s.drop ((nextL s).2.2 + sk false (s.drop (nextL s).2.2))))
def key (t : S32) : Int × ByteArray := (t.f0, t.f1)
theorem wideL_nil (note : List UInt8) (f : Nat) : wideL note f [] = [] := by
  cases f with
  | zero => rfl
  | succ f => unfold wideL; rw [if_pos rfl]
theorem wideL_cons (note : List UInt8) (f : Nat) (s : List UInt8) (h : s ≠ []) (hf : s.length ≤ f) : ∃ y, wideL note f s = pre note ++ y := by
  cases f with
  | zero => exact absurd (List.eq_nil_of_length_eq_zero (by omega)) h
  | succ f => exact ⟨_, by unfold wideL; rw [if_neg h]⟩
theorem run_wide (note : List UInt8) (hn : ∀ c ∈ note, c ≠ 10) : ∀ (f : Nat) (s : List UInt8) (p q : Int) (g : Nat), s ≠ [] → sk false s = 0 → (run f s p).2.1 = 0 → s.length ≤ f →
    ∀ y, wideL note f s = pre note ++ y → y.length ≤ g → sk false y = 0 ∧ (run g y q).2.1 = 0 ∧ (run g y q).1.map key = (run f s p).1.map key
  | 0, s, _, _, _, h, _, _, hl => absurd (List.eq_nil_of_length_eq_zero (by omega)) h
  | f + 1, s, p, q, g, hs, hsk, he, hl => by
    intro y hy hg
    have hle := next_le s hs
    have hml := sk_le false (s.drop (nextL s).2.2)
    have hag := sk_again false (s.drop (nextL s).2.2)
    rw [List.length_drop] at hml
    unfold wideL at hy
    rw [if_neg hs] at hy
    have hy := (List.append_cancel_left hy).symm
    unfold run at he
    rw [if_neg hs] at he
    have h0 : (nextL s).2.2 ≠ 0 := by intro h; rw [if_pos h] at he; simp at he
    rw [if_neg h0] at he
    have he2 : (run f (s.drop ((nextL s).2.2 + sk false (s.drop (nextL s).2.2))) (p + ((nextL s).2.2 + sk false (s.drop (nextL s).2.2) : Nat))).2.1 = 0 := by
      apply Classical.byContradiction; intro hc; rw [if_neg hc] at he; exact hc he
    have hrs : run (f + 1) s p = (⟨(nextL s).1, (nextL s).2.1, p⟩ :: (run f (s.drop ((nextL s).2.2 + sk false (s.drop (nextL s).2.2))) (p + ((nextL s).2.2 + sk false (s.drop (nextL s).2.2) : Nat))).1, 0, 0) := by
      conv => lhs; unfold run
      rw [if_neg hs, if_neg h0, if_pos he2]
    rw [hrs]
    clear hrs he
    rw [List.drop_drop] at hag
    -- the token and what is skipped behind it
    obtain ⟨n, hnn⟩ : ∃ n, (nextL s).2.2 = n := ⟨_, rfl⟩
    obtain ⟨m, hmm⟩ : ∃ m, sk false (s.drop n) = m := ⟨_, rfl⟩
    rw [hnn] at hle hml hag hy h0 he2 ⊢
    rw [hmm] at hml hag hy he2 ⊢
    have hx : s.take (n + m) ++ s.drop (n + m) = s := List.take_append_drop _ _
    have hxl : (s.take (n + m)).length = n + m := by rw [List.length_take]; omega
    have hsplit : s.drop n = (s.take (n + m)).drop n ++ s.drop (n + m) := by
      conv => lhs; rw [← hx]
      rw [drop_cut _ _ n (by omega)]
    have hul : ((s.take (n + m)).drop n).length = m := by rw [List.length_drop, hxl]; omega
    have hxne : s.take (n + m) ≠ [] := by
      intro h; have := congrArg List.length h; rw [hxl, List.length_nil] at this; omega
    by_cases hz : s.drop (n + m) = []
    · -- the last token
      rw [hz, wideL_nil, List.append_nil] at hy
      have hx' := hx
      rw [hz, List.append_nil] at hx'
      have hys : y = s := hy.trans hx'
      subst hys
      have hr1 : run g y q = (⟨(nextL y).1, (nextL y).2.1, q⟩ :: [], 0, 0) := by
        cases g with
        | zero => exact absurd (List.eq_nil_of_length_eq_zero (by omega)) hs
        | succ g =>
          conv => lhs; unfold run
          rw [if_neg hs, hnn, if_neg h0, hmm, hz, run_nil, if_pos rfl]
      rw [hr1, hz, run_nil]
      exact ⟨hsk, rfl, rfl⟩
    · have hlz : (s.drop (n + m)).length ≤ f := by rw [List.length_drop]; omega
      obtain ⟨y2, hy2⟩ := wideL_cons note f (s.drop (n + m)) hz hlz
      rw [hy2] at hy
      have hpre : pre note ++ y2 = 9 :: (32 :: 45 :: 45 :: (note ++ [10, 32]) ++ y2) := rfl
      have hnx : nextL y = nextL s := by
        have h1 := next_cut 9 (Or.inl rfl) (s.take (n + m)) (s.drop (n + m)) (32 :: 45 :: 45 :: (note ++ [10, 32]) ++ y2) (by rw [hx, hnn]; exact h0) (by rw [hx, hnn, hxl]; omega)
        rw [hx] at h1
        rw [hy, hpre]; exact h1
      have hyd : y.drop n = (s.take (n + m)).drop n ++ (pre note ++ y2) := by rw [hy, drop_cut _ _ n (by omega)]
      have hyd2 : y.drop (n + (m + (pre note).length)) = y2 := by
        rw [hy, List.drop_append, List.drop_of_length_le (by omega), List.nil_append, hxl]
        have : n + (m + (pre note).length) - (n + m) = (pre note).length := by omega
        rw [this]; exact List.drop_left
      have hlen : y2.length < y.length := by
        rw [hy, List.length_append, List.length_append, hxl]; omega
      obtain ⟨g, rfl⟩ : ∃ g', g = g' + 1 := ⟨g - 1, by omega⟩
      have ih := run_wide note hn f (s.drop (n + m)) (p + ((n + m : Nat) : Int)) (q + ((n + (m + (pre note).length) : Nat) : Int)) g hz hag he2 hlz y2 hy2 (by omega)
      have hskip : sk false (y.drop n) = m + (pre note).length := by
        rw [hyd, sk_glue (s.drop (n + m)) _ hz false _ (by rw [← hsplit, hmm, hul]), hul, sk_pre_app note y2 hn, ih.1]; omega
      have hyne : y ≠ [] := by rintro rfl; simp at hlen
      have hr1 : run (g + 1) y q = (⟨(nextL s).1, (nextL s).2.1, q⟩ :: (run g y2 (q + ((n + (m + (pre note).length) : Nat) : Int))).1, 0, 0) := by
        conv => lhs; unfold run
        rw [if_neg hyne, hnx, hnn, if_neg h0, hskip, hyd2, if_pos ih.2.1]
      rw [hr1]
      refine ⟨?_, rfl, ?_⟩
      · -- nothing is to be skipped before the token
        match hs' : s, hsk with
        | c :: r, hsk =>
          cases hb : blankB (c.toNat : Int) with
          | true => rw [sk_fb c r hb] at hsk; omega
          | false =>
            by_cases h2 : c = 45 ∧ r.headD 0 = 45
            · rw [sk_fn c r hb h2] at hsk; omega
            · obtain ⟨x', hx'⟩ : ∃ x', (c :: r).take (n + m) = c :: x' ∧ x' = r.take (n + m - 1) := by
                obtain ⟨j, hj⟩ : ∃ j, n + m = j + 1 := ⟨n + m - 1, by omega⟩
                exact ⟨r.take j, by rw [hj, List.take_succ_cons], by rw [hj]; rfl⟩
              rw [hy, hx'.1, List.cons_append]
              refine sk_f0 c _ hb ?_
              rintro ⟨hc, hh⟩
              apply h2
              refine ⟨hc, ?_⟩
              cases hx2 : x' with
              | nil => rw [hx2, List.nil_append, hpre, List.headD_cons] at hh; exact absurd hh (by decide)
              | cons d x'' =>
                rw [hx2, List.cons_append, List.headD_cons] at hh
                have := hx'.2
                rw [hx2] at this
                cases r with
                | nil => simp at this
                | cons e r =>
                  have hjj : n + m - 1 ≠ 0 := by
                    intro h; rw [h] at this; simp at this
                  obtain ⟨j, hj⟩ : ∃ j, n + m - 1 = j + 1 := ⟨n + m - 2, by omega⟩
                  rw [hj, List.take_succ_cons] at this
                  injection this with h1 _
                  rw [List.headD_cons, ← h1]; exact hh
      · rw [List.map_cons, List.map_cons, ih.2.2]
        rfl
end Go.Proofs.YtnmdlimpfckicaaDoor.L

/- The wide text as the law puts it together: by the tokens' places. -/
import Derived.Test.YtnmdlimpfckicaaDoorSk
namespace Go.Proofs.YtnmdlimpfckicaaDoor.L
open Go.RowKit Go.Proofs.YtnmdlimpfckicaaDoor.Q Go.Proofs.YtnmdlimpfckicaaDoor.R Go.Proofs.YtnmdlimpfckicaaDoor.S Go.Proofs.YtnmdlimpfckicaaDoor.T Go.Proofs.YtnmdlimpfckicaaDoor.X Go.Proofs.YtnmdlimpfckicaaDoorW.PrintWords Go.Proofs.YtnmdlimpfckicaaDoorW.PrintLast Go.Proofs.YtnmdlimpfckicaaDoorW.PrintMore

def nextAt (hi : Int) : List S32 → Int
  | [] => hi
  | t :: _ => t.f2
def asc (hi : Int) : List S32 → Prop
  | [] => True
  | t :: r => 0 ≤ t.f2 ∧ t.f2 ≤ nextAt hi r ∧ nextAt hi r ≤ hi ∧ asc hi r
def wl (note T : List UInt8) : List S32 → List UInt8
  | [] => []
  | t :: r => pre note ++ ((T.drop t.f2.toNat).take ((nextAt T.length r).toNat - t.f2.toNat) ++ wl note T r)
theorem run_wl (note T : List UInt8) : ∀ (f : Nat) (p : Nat), p ≤ T.length → T.length - p ≤ f → (run f (T.drop p) p).2.1 = 0 →
    wl note T (run f (T.drop p) p).1 = wideL note f (T.drop p) ∧ asc T.length (run f (T.drop p) p).1 ∧ nextAt T.length (run f (T.drop p) p).1 = p
  | 0, p, hp, hf, he => by
    have e : T.drop p = [] := List.drop_of_length_le (by omega)
    rw [e]
    have e3 : nextAt (T.length : Int) [] = (T.length : Int) := rfl
    exact ⟨rfl, trivial, e3.trans (by omega)⟩
  | f + 1, p, hp, hf, he => by
    by_cases h0 : T.drop p = []
    · rw [h0, run_nil, wideL_nil]
      have := congrArg List.length h0
      rw [List.length_drop, List.length_nil] at this
      have e3 : nextAt (T.length : Int) [] = (T.length : Int) := rfl
      exact ⟨rfl, trivial, e3.trans (by omega)⟩
    have hle := next_le (T.drop p) h0
    have hml := sk_le false ((T.drop p).drop (nextL (T.drop p)).2.2)
    rw [List.length_drop, List.length_drop] at hml
    rw [List.length_drop] at hle
    unfold run at he
    rw [if_neg h0] at he
    have hn : (nextL (T.drop p)).2.2 ≠ 0 := by intro h; rw [if_pos h] at he; simp at he
    rw [if_neg hn] at he
    have he2 : (run f ((T.drop p).drop ((nextL (T.drop p)).2.2 + sk false ((T.drop p).drop (nextL (T.drop p)).2.2))) ((p : Int) + ((nextL (T.drop p)).2.2 + sk false ((T.drop p).drop (nextL (T.drop p)).2.2) : Nat))).2.1 = 0 := by
      apply Classical.byContradiction; intro hc; rw [if_neg hc] at he; exact hc he
    unfold run wideL
    rw [if_neg h0, if_neg h0, if_neg hn, if_pos he2]
    clear he
    have hk : (nextL (T.drop p)).2.2 + sk false ((T.drop p).drop (nextL (T.drop p)).2.2) ≤ T.length - p := by omega
    have hk0 : 0 < (nextL (T.drop p)).2.2 + sk false ((T.drop p).drop (nextL (T.drop p)).2.2) := by omega
    generalize (nextL (T.drop p)).2.2 + sk false ((T.drop p).drop (nextL (T.drop p)).2.2) = k at hk hk0 he2 ⊢
    have ek : (p : Int) + (k : Int) = ((p + k : Nat) : Int) := by omega
    rw [List.drop_drop, ek] at he2 ⊢
    have ih := run_wl note T f (p + k) (by omega) (by omega) he2
    generalize (run f (T.drop (p + k)) ((p + k : Nat) : Int)).1 = rest at ih ⊢
    refine ⟨?_, ?_, rfl⟩
    · unfold wl
      rw [ih.1, ih.2.2]
      simp only [Int.toNat_natCast, Nat.add_sub_cancel_left]
    · refine ⟨?_, ?_, ?_, ih.2.1⟩
      · simp only []; omega
      · simp only [ih.2.2]; omega
      · rw [ih.2.2]; omega
/-- The law's answer over lists: the wide text is cut as the text was. -/
theorem wide_toks (note T : List UInt8) (hn : ∀ c ∈ note, c ≠ 10) (he : (toks T).2.1 = 0) : (toks (wl note T (toks T).1)).2.1 = 0 ∧ (toks (wl note T (toks T).1)).1.map key = (toks T).1.map key ∧ asc T.length (toks T).1 := by
  have hs := sk_le false T
  have ht : toks T = run T.length (T.drop (sk false T)) (sk false T : Nat) := rfl
  rw [ht] at he ⊢
  have h := run_wl note T T.length (sk false T) hs (by omega) he
  rw [h.1]
  refine ⟨?_, ?_, h.2.1⟩
  all_goals
    by_cases h0 : T.drop (sk false T) = []
    · rw [h0, wideL_nil]
      first | rfl | (rw [run_nil]; rfl)
  · obtain ⟨y, hy⟩ := wideL_cons note T.length (T.drop (sk false T)) h0 (by rw [List.length_drop]; omega)
    have hr := run_wide note hn T.length (T.drop (sk false T)) (sk false T : Nat) ((pre note).length : Nat) (pre note ++ y).length h0 (sk_again false T) he (by rw [List.length_drop]; omega) y hy (by rw [List.length_append]; omega)
    rw [hy]
    unfold toks
    rw [sk_pre_app note y hn, hr.1, Nat.add_zero, List.drop_left]
    exact hr.2.1
  · obtain ⟨y, hy⟩ := wideL_cons note T.length (T.drop (sk false T)) h0 (by rw [List.length_drop]; omega)
    have hr := run_wide note hn T.length (T.drop (sk false T)) (sk false T : Nat) ((pre note).length : Nat) (pre note ++ y).length h0 (sk_again false T) he (by rw [List.length_drop]; omega) y hy (by rw [List.length_append]; omega)
    rw [hy]
    have : toks (pre note ++ y) = run (pre note ++ y).length ((pre note ++ y).drop (sk false (pre note ++ y))) (sk false (pre note ++ y) : Nat) := rfl
    rw [this, sk_pre_app note y hn, hr.1, Nat.add_zero, List.drop_left]
    exact hr.2.2
end Go.Proofs.YtnmdlimpfckicaaDoor.L

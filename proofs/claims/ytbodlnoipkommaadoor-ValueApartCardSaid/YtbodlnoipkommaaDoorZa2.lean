/- Merged out of this session's texts: Pf, CardValueApart -/
import Derived.Test.YtbodlnoipkommaaDoorZB11
import Derived.Lib.SmallJoins
import Derived.Test.YtbodlnoipkommaaDoorZa1
/- ValueApart in plain Lean. -/
namespace Go.Proofs.YtbodlnoipkommaaDoor.Pf
open Go.RowKit Go.Proofs.YtbodlnoipkommaaDoor.Q Go.Proofs.YtbodlnoipkommaaDoor.Wg Go.Proofs.YtbodlnoipkommaaDoor.Wh Go.Proofs.YtbodlnoipkommaaDoor.Wk Go.Proofs.YtbodlnoipkommaaDoor.Wp Go.Proofs.YtbodlnoipkommaaDoor.Wq Go.Proofs.YtbodlnoipkommaaDoor.Ws Go.Proofs.YtbodlnoipkommaaDoor.Wt Go.Proofs.YtbodlnoipkommaaDoor.Pa Go.Proofs.YtbodlnoipkommaaDoor.Pb Go.Proofs.YtbodlnoipkommaaDoor.Pc Go.Proofs.YtbodlnoipkommaaDoor.Pe Go.Proofs.YtbodlnoipkommaaDoor.Xa Go.Proofs.YtbodlnoipkommaaDoorW.PrintWords Go.Proofs.YtbodlnoipkommaaDoorW.PrintLast Go.Proofs.YtbodlnoipkommaaDoorW.PrintMore
/-! ### Digits -/
/-- What a list of digits says. -/
def val (l : List UInt8) : Nat := l.foldl (fun a b => a * 10 + (b.toNat - 48)) 0
theorem val_snoc (l : List UInt8) (b : UInt8) : val (l ++ [b]) = val l * 10 + (b.toNat - 48) := by
  unfold val; rw [List.foldl_append]; rfl
theorem dig_val (d : Nat) (h : d < 10) : (UInt8.ofNat (48 + d)).toNat = 48 + d := by
  rw [UInt8.toNat_ofNat']; omega
theorem decDigits_val (u : Nat) : val (Lib.decDigits u) = u := by
  induction u using Nat.strongRecOn with
  | ind u ih =>
    rw [Lib.decDigits]
    split
    · rename_i h
      have := dig_val u h
      show (0 * 10 + ((UInt8.ofNat (48 + u)).toNat - 48)) = u
      rw [this]; omega
    · rename_i h
      rw [val_snoc, ih (u / 10) (by omega), dig_val _ (by omega)]
      omega
/-- Is it a digit? -/
def isDig (b : UInt8) : Bool := decide (48 ≤ b.toNat) && decide (b.toNat ≤ 57)
theorem decDigits_dig (u : Nat) : ∀ b ∈ Lib.decDigits u, isDig b = true := by
  induction u using Nat.strongRecOn with
  | ind u ih =>
    rw [Lib.decDigits]
    split
    · rename_i h
      intro b hb
      rw [List.mem_singleton] at hb
      subst hb
      unfold isDig; rw [dig_val u h]; simp; omega
    · rename_i h
      intro b hb
      rw [List.mem_append, List.mem_singleton] at hb
      rcases hb with hb | hb
      · exact ih (u / 10) (by omega) b hb
      · subst hb
        unfold isDig; rw [dig_val _ (by omega)]; simp; omega
theorem decDigits_inj {u v : Nat} (h : Lib.decDigits u = Lib.decDigits v) : u = v := by
  rw [← decDigits_val u, h, decDigits_val]
theorem decDigits_ne (u : Nat) : Lib.decDigits u ≠ [] := by
  intro h
  have := Lib.decDigits_length u
  have h2 := Lib.nDigits_pos u
  rw [h] at this
  simp at this; omega
theorem itoa_inj {n m : Int} (h : Lib.itoa n = Lib.itoa m) : n = m := by
  unfold Lib.itoa at h
  have dash : ∀ u, ∀ l, Lib.decDigits u ≠ 45 :: l := by
    intro u l e
    have := decDigits_dig u 45 (by rw [e]; exact List.mem_cons_self)
    exact absurd this (by decide)
  by_cases hn : n < 0 <;> by_cases hm : m < 0
  · rw [if_pos hn, if_pos hm] at h
    injection h with _ h
    have := decDigits_inj h; omega
  · rw [if_pos hn, if_neg hm] at h
    exact absurd h.symm (dash _ _)
  · rw [if_neg hn, if_pos hm] at h
    exact absurd h (dash _ _)
  · rw [if_neg hn, if_neg hm] at h
    have := decDigits_inj h; omega
/-- Two lists of digits, cut off by something that is none, are the same if what follows them is too. -/
theorem cut_digits : ∀ (a b : List UInt8) (x : UInt8) (s t : List UInt8), (∀ d ∈ a, isDig d = true) → (∀ d ∈ b, isDig d = true) → isDig x = false → a ++ x :: s = b ++ x :: t → a = b ∧ s = t
  | [], [], _, _, _, _, _, _, h => by injection h with _ h; exact ⟨rfl, h⟩
  | [], d :: b, x, s, t, _, hb, hx, h => by
    injection h with h _
    have := hb d List.mem_cons_self
    rw [← h, hx] at this; cases this
  | d :: a, [], x, s, t, ha, _, hx, h => by
    injection h with h _
    have := ha d List.mem_cons_self
    rw [h, hx] at this; cases this
  | d :: a, d' :: b, x, s, t, ha, hb, hx, h => by
    injection h with h1 h2
    have := cut_digits a b x s t (fun y hy => ha y (List.mem_cons_of_mem _ hy)) (fun y hy => hb y (List.mem_cons_of_mem _ hy)) hx h2
    exact ⟨by rw [h1, this.1], this.2⟩
theorem data_append (a b : ByteArray) : (a ++ b).data.toList = a.data.toList ++ b.data.toList := Joins.data_append a b
/-! ### The kinds of literal -/
theorem five (u : Nat) (h0 : 10000 ≤ u) (h1 : u < 20000) : ∃ t, Lib.decDigits u = 49 :: t := by
  rw [Lib.decDigits, dif_neg (by omega), Lib.decDigits, dif_neg (by omega), Lib.decDigits, dif_neg (by omega), Lib.decDigits, dif_neg (by omega), Lib.decDigits_one (by omega)]
  have : u / 10 / 10 / 10 / 10 = 1 := by omega
  rw [this]
  exact ⟨_, rfl⟩
theorem quoted_inj : ∀ a b : List UInt8, Wt.quoted a = Wt.quoted b → a = b
  | [], [], _ => rfl
  | [], y :: b, h => by
    rw [quoted_cons] at h
    split at h <;> cases h
  | x :: a, [], h => by
    rw [quoted_cons] at h
    split at h <;> cases h
  | x :: a, y :: b, h => by
    rw [quoted_cons, quoted_cons] at h
    by_cases hx : x = 39 <;> by_cases hy : y = 39
    · rw [if_pos hx, if_pos hy] at h
      injection h with _ h; injection h with _ h
      rw [hx, hy, quoted_inj a b h]
    · rw [if_pos hx, if_neg hy] at h
      injection h with h _; exact absurd h.symm hy
    · rw [if_neg hx, if_pos hy] at h
      injection h with h _; exact absurd h hx
    · rw [if_neg hx, if_neg hy] at h
      injection h with h1 h2
      rw [h1, quoted_inj a b h2]
theorem hexd_inj : ∀ a b : Nat, a < 16 → b < 16 → hexd a = hexd b → a = b := by
  intro a b ha hb h
  have h' := congrArg UInt8.toNat h
  unfold hexd at h'
  split at h' <;> split at h' <;> simp only [UInt8.toNat_ofNat'] at h' <;> omega
theorem hexs_cons (x : UInt8) (a : List UInt8) : hexs (x :: a) = hexd (x.toNat / 16) :: hexd (x.toNat % 16) :: hexs a := List.flatMap_cons
theorem hexs_inj : ∀ a b : List UInt8, hexs a = hexs b → a = b
  | [], [], _ => rfl
  | [], y :: b, h => by rw [hexs_cons] at h; cases h
  | x :: a, [], h => by rw [hexs_cons] at h; cases h
  | x :: a, y :: b, h => by
    rw [hexs_cons, hexs_cons] at h
    injection h with h1 h; injection h with h2 h
    have lx := x.toNat_lt
    have ly := y.toNat_lt
    have e1 := hexd_inj _ _ (by omega) (by omega) h1
    have e2 := hexd_inj _ _ (by omega) (by omega) h2
    have : x = y := UInt8.toNat_inj.1 (by omega)
    rw [this, hexs_inj a b h]
/-- The four digits behind the dot. -/
def tail4 (r : Nat) : List UInt8 := (Lib.decDigits (10000 + r)).drop 1
theorem tail4_inj {a b : Nat} (ha : a < 10000) (hb : b < 10000) (h : tail4 a = tail4 b) : a = b := by
  obtain ⟨s, hs⟩ := five (10000 + a) (by omega) (by omega)
  obtain ⟨t, ht⟩ := five (10000 + b) (by omega) (by omega)
  unfold tail4 at h
  rw [hs, ht] at h
  have e : s = t := h
  have : 10000 + a = 10000 + b := decDigits_inj (by rw [hs, ht, e])
  omega
def fourL (u : Nat) : List UInt8 := Lib.decDigits (u / 10000) ++ 46 :: tail4 (u % 10000)
theorem fourL_inj {u v : Nat} (h : fourL u = fourL v) : u = v := by
  obtain ⟨h1, h2⟩ := cut_digits _ _ 46 _ _ (decDigits_dig _) (decDigits_dig _) (by decide) h
  have e1 := decDigits_inj h1
  have e2 := tail4_inj (by omega) (by omega) h2
  omega
theorem extract_one (l : List UInt8) : ((⟨l.toArray⟩ : ByteArray).extract 1 (⟨l.toArray⟩ : ByteArray).size).data.toList = l.drop 1 := by
  rw [ByteArray.data_extract]
  show ((l.toArray).extract 1 l.toArray.size).toList = _
  simp
  rw [List.take_of_length_le (by simp)]
theorem four_data (u : Nat) : (fourS u).data.toList = fourL u := by
  unfold fourS fourL tail4
  rw [data_append, data_append]
  unfold dec
  rw [extract_one]
  show Lib.decDigits (u / 10000) ++ [46] ++ _ = _
  rw [List.append_assoc]; rfl
def decL (n : Int) : List UInt8 := if n < 0 then 45 :: fourL n.natAbs else fourL n.natAbs
theorem dec_data (n : Int) : (decimalS n).data.toList = decL n := by
  unfold decimalS decL
  split
  · rw [data_append, four_data]; rfl
  · exact four_data _
theorem four_head (u : Nat) : ∃ b t, fourL u = b :: t ∧ isDig b = true := by
  unfold fourL
  cases h : Lib.decDigits (u / 10000) with
  | nil => exact absurd h (decDigits_ne _)
  | cons b t => exact ⟨b, _, rfl, decDigits_dig _ b (by rw [h]; exact List.mem_cons_self)⟩
theorem decL_inj {n m : Int} (h : decL n = decL m) : n = m := by
  unfold decL at h
  by_cases hn : n < 0 <;> by_cases hm : m < 0
  · rw [if_pos hn, if_pos hm] at h
    injection h with _ h
    have := fourL_inj h; omega
  · rw [if_pos hn, if_neg hm] at h
    obtain ⟨b, t, e, hb⟩ := four_head m.natAbs
    rw [e] at h; injection h with h _
    rw [← h] at hb; cases hb
  · rw [if_neg hn, if_pos hm] at h
    obtain ⟨b, t, e, hb⟩ := four_head n.natAbs
    rw [e] at h; injection h with h _
    rw [h] at hb; cases hb
  · rw [if_neg hn, if_neg hm] at h
    have := fourL_inj h; omega
/-- A literal's bytes, by kind (of a right value). -/
def litL (k n : Int) (s : List UInt8) : List UInt8 :=
  if k = 0 then [110, 117, 108, 108] else if k = 1 then (if n = 1 then [116, 114, 117, 101] else [102, 97, 108, 115, 101]) else if k = 2 then Lib.itoa n else if k = 3 then decL n else
  if k = 4 then 39 :: (Wt.quoted s ++ [39]) else 120 :: 39 :: (hexs s ++ [39])
theorem print_data (k n : Int) (s : ByteArray) (h : rightB k n s = true) : (printR k n s).data.toList = litL k n s.data.toList := by
  unfold printR litL
  rw [h]
  simp only [Bool.true_eq_false, if_false]
  split
  · rfl
  split
  · split <;> rfl
  split
  · rfl
  split
  · exact dec_data n
  split
  · rw [data_append, data_append]; rfl
  · rfl
theorem print_wrong (k n : Int) (s : ByteArray) (h : rightB k n s = false) : printR k n s = ⟨#[]⟩ := by unfold printR; rw [if_pos h]
theorem itoa_head (n : Int) : ∃ b t, Lib.itoa n = b :: t ∧ (b = 45 ∨ isDig b = true) ∧ ∀ d ∈ t, isDig d = true := by
  unfold Lib.itoa
  split
  · exact ⟨45, _, rfl, Or.inl rfl, decDigits_dig _⟩
  · cases h : Lib.decDigits n.toNat with
    | nil => exact absurd h (decDigits_ne _)
    | cons b t => exact ⟨b, t, rfl, Or.inr (decDigits_dig _ b (by rw [h]; exact List.mem_cons_self)), fun d hd => decDigits_dig _ d (by rw [h]; exact List.mem_cons_of_mem _ hd)⟩
theorem decL_head (n : Int) : ∃ b t, decL n = b :: t ∧ (b = 45 ∨ isDig b = true) ∧ (46 : UInt8) ∈ t := by
  have hm : ∀ u b t, fourL u = b :: t → (46 : UInt8) ∈ t := by
    intro u b t e
    unfold fourL at e
    cases h : Lib.decDigits (u / 10000) with
    | nil => exact absurd h (decDigits_ne _)
    | cons c r =>
      rw [h] at e
      injection e with _ e
      rw [← e]
      exact List.mem_append_right _ List.mem_cons_self
  unfold decL
  split
  · obtain ⟨b, t, e, _⟩ := four_head n.natAbs
    exact ⟨45, _, rfl, Or.inl rfl, by rw [e]; exact List.mem_cons_of_mem _ (hm _ _ _ e)⟩
  · obtain ⟨b, t, e, hb⟩ := four_head n.natAbs
    exact ⟨b, t, e, Or.inr hb, hm _ _ _ e⟩
/-- A literal's first byte tells its kind, but for Int and Dec. -/
def headK (b : UInt8) : Nat := if b = 110 then 0 else if b = 116 then 1 else if b = 102 then 1 else if b = 39 then 4 else if b = 120 then 5 else 2
theorem head_num {b : UInt8} (h : b = 45 ∨ isDig b = true) : headK b = 2 := by
  have hn : b.toNat = 45 ∨ 48 ≤ b.toNat ∧ b.toNat ≤ 57 := by
    rcases h with rfl | h
    · exact Or.inl rfl
    · unfold isDig at h; simp at h; exact Or.inr h
  have ne : ∀ c : UInt8, (c.toNat < 45 ∨ 57 < c.toNat) → b ≠ c := by
    intro c hc e; rw [e] at hn; omega
  unfold headK
  rw [if_neg (ne _ (by decide)), if_neg (ne _ (by decide)), if_neg (ne _ (by decide)), if_neg (ne _ (by decide)), if_neg (ne _ (by decide))]
theorem lit_head (k n : Int) (s : List UInt8) (hk : k = 0 ∨ k = 1 ∨ k = 2 ∨ k = 3 ∨ k = 4 ∨ k = 5) : ∃ b t, litL k n s = b :: t ∧ headK b = (if k = 3 then 2 else k.toNat) := by
  rcases hk with rfl | rfl | rfl | rfl | rfl | rfl
  · exact ⟨_, _, rfl, rfl⟩
  · show ∃ b t, (if n = 1 then _ else _) = b :: t ∧ _
    split
    · exact ⟨_, _, rfl, rfl⟩
    · exact ⟨_, _, rfl, rfl⟩
  · obtain ⟨b, t, e, h, _⟩ := itoa_head n
    exact ⟨b, t, e, head_num h⟩
  · obtain ⟨b, t, e, h, _⟩ := decL_head n
    exact ⟨b, t, e, head_num h⟩
  · exact ⟨_, _, rfl, rfl⟩
  · exact ⟨_, _, rfl, rfl⟩
theorem lit_two_three (n m : Int) : Lib.itoa n ≠ decL m := by
  intro h
  obtain ⟨b, t, e, _, hd⟩ := itoa_head n
  obtain ⟨c, r, e', _, h46⟩ := decL_head m
  rw [e, e'] at h
  injection h with _ h
  have := hd 46 (by rw [h]; exact h46)
  cases this
/-- What a right value of a kind without a number, or without a text, holds there. -/
theorem right_parts {k n : Int} {s : ByteArray} (h : rightB k n s = true) : (k = 0 → n = 0 ∧ s.toList = []) ∧ (k = 1 → (n = 0 ∨ n = 1) ∧ s.toList = []) ∧ (k = 2 ∨ k = 3 → s.toList = []) ∧ (k = 4 ∨ k = 5 → n = 0) := by
  unfold rightB at h
  refine ⟨?_, ?_, ?_, ?_⟩
  · rintro rfl; simpa using h
  · rintro rfl
    simp at h
    exact ⟨by omega, h.1⟩
  · rintro (rfl | rfl) <;> simpa using h
  · rintro (rfl | rfl) <;> (simp at h; exact h.1)
theorem lit_inj {k n : Int} {s : ByteArray} {k' n' : Int} {s' : ByteArray} (h : rightB k n s = true) (h' : rightB k' n' s' = true) (e : litL k n s.data.toList = litL k' n' s'.data.toList) : k = k' ∧ n = n' ∧ s.toList = s'.toList := by
  have hk := right_kind h
  have hk' := right_kind h'
  obtain ⟨b, t, e1, q⟩ := lit_head k n s.data.toList hk
  obtain ⟨b', t', e1', q'⟩ := lit_head k' n' s'.data.toList hk'
  have hb : b = b' := by rw [e1, e1'] at e; injection e
  rw [hb] at q
  have hq := q.symm.trans q'
  have p := right_parts h
  have p' := right_parts h'
  have two : k = k' := by
    by_cases a : k = 3 <;> by_cases c : k' = 3
    · omega
    · rw [if_pos a, if_neg c] at hq
      have : k' = 2 := by omega
      subst a this
      exact absurd e.symm (lit_two_three n' n)
    · rw [if_neg a, if_pos c] at hq
      have : k = 2 := by omega
      subst c this
      exact absurd e (lit_two_three n n')
    · rw [if_neg a, if_neg c] at hq; omega
  subst two
  refine ⟨rfl, ?_⟩
  simp only [ByteArray.toList_eq] at p p' ⊢
  rcases hk with rfl | rfl | rfl | rfl | rfl | rfl
  · exact ⟨by rw [(p.1 rfl).1, (p'.1 rfl).1], by rw [(p.1 rfl).2, (p'.1 rfl).2]⟩
  · refine ⟨?_, by rw [(p.2.1 rfl).2, (p'.2.1 rfl).2]⟩
    rcases (p.2.1 rfl).1 with rfl | rfl <;> rcases (p'.2.1 rfl).1 with rfl | rfl
    · rfl
    · cases e
    · cases e
    · rfl
  · exact ⟨itoa_inj e, by rw [p.2.2.1 (Or.inl rfl), p'.2.2.1 (Or.inl rfl)]⟩
  · exact ⟨decL_inj e, by rw [p.2.2.1 (Or.inr rfl), p'.2.2.1 (Or.inr rfl)]⟩
  · refine ⟨by rw [p.2.2.2 (Or.inl rfl), p'.2.2.2 (Or.inl rfl)], ?_⟩
    have e' : 39 :: (Wt.quoted s.data.toList ++ [39]) = 39 :: (Wt.quoted s'.data.toList ++ [39]) := e
    injection e' with _ e'
    exact quoted_inj _ _ (List.append_cancel_right e')
  · refine ⟨by rw [p.2.2.2 (Or.inr rfl), p'.2.2.2 (Or.inr rfl)], ?_⟩
    have e' : 120 :: 39 :: (hexs s.data.toList ++ [39]) = 120 :: 39 :: (hexs s'.data.toList ++ [39]) := e
    injection e' with _ e'
    injection e' with _ e'
    exact hexs_inj _ _ (List.append_cancel_right e')
theorem lit_ne' {k n : Int} {s : ByteArray} (h : rightB k n s = true) : (printR k n s).toList ≠ [] := by
  rw [ByteArray.toList_eq, print_data k n s h]
  obtain ⟨b, t, e, _⟩ := lit_head k n s.data.toList (right_kind h)
  rw [e]; exact List.cons_ne_nil _ _
theorem same_iff {k n : Int} {s : ByteArray} {k' n' : Int} {s' : ByteArray} (h : rightB k n s = true) (h' : rightB k' n' s' = true) :
    ((printR k n s).toList == (printR k' n' s').toList) = (k == k' && (n == n' && (s.toList == s'.toList))) := by
  rw [Bool.eq_iff_iff]
  simp only [beq_iff_eq, Bool.and_eq_true]
  constructor
  · intro e
    rw [ByteArray.toList_eq, ByteArray.toList_eq, print_data k n s h, print_data k' n' s' h'] at e
    exact lit_inj h h' e
  · rintro ⟨rfl, rfl, e⟩
    rw [ByteArray.toList_eq, ByteArray.toList_eq] at *
    have : s = s' := by cases s; cases s'; congr; exact Array.toList_inj.1 e
    rw [this]
theorem apart_true (k n : Int) (s : ByteArray) (k' n' : Int) (s' : ByteArray) (hn : I64 n) (hn' : I64 n') : chancerylaw17_ValueApart.f 3 k n s k' n' s' = some true := by
  unfold chancerylaw17_ValueApart.f value_Print.f
  rw [if_pos hn, if_pos hn', right_f 2, right_f 2]
  simp only [Option.bind_some]
  have nil : (⟨#[]⟩ : ByteArray).toList = [] := toList_empty
  cases h : rightB k n s <;> cases h' : rightB k' n' s'
  · rw [print_wrong k n s h, print_wrong k' n' s' h']
    simp only [chancerylaw17_ValueApart.j0, right_f 1, h, h', chancerylaw17_awake.f, nil, Bool.false_eq_true, if_false, if_true, Option.bind_some]
  · rw [print_wrong k n s h]
    simp only [chancerylaw17_ValueApart.j0, right_f 1, h, h', chancerylaw17_awake.f, nil, Bool.false_eq_true, if_false, if_true, Option.bind_some]
  · rw [print_wrong k' n' s' h']
    simp only [chancerylaw17_ValueApart.j0, right_f 1, h, h', chancerylaw17_awake.f, nil, Bool.false_eq_true, if_false, if_true, Option.bind_some, Bool.not_false]
  · have hs := same_iff h h'
    have hne := lit_ne' h
    simp only [chancerylaw17_ValueApart.j0, Bool.false_eq_true, if_false, if_true, Bool.not_true, hs, hne, chancerylaw17_awake.f, Option.bind_some, BEq.rfl]
end Go.Proofs.YtbodlnoipkommaaDoor.Pf
/- ValueApart: the row and its tied card. -/
namespace Go.Proofs.YtbodlnoipkommaaDoor.valueApart
open Go.ChangeShapes Go.WideShapes Go.ChangeAt Go.RowKit Go.Proofs.YtbodlnoipkommaaDoor.Ry
open Go.ChangeMaps (open_string shut_string)
set_option linter.unusedVariables false
set_option maxRecDepth 100000 in
theorem lifted (os : Os) (started : os.Started) (H : Type) (enc : TypeId × Value → H) :
    ReturnsInHanded {} Tryd.checked os 4 .any (fun w args => (Rows.valueApartSpec.pre enc Tryd.prog Tryd.f4 Rows.valueApartRow.domain false w args ∧ laidMetH Tryd.prog laidL w) ∧ sizedMet enc Tryd.prog Tryd.f4 (OpenSpec.ofChange Rows.valueApartSpec) false w args)
      (Rows.valueApartSpec.post enc Tryd.prog Tryd.f4 false true false false) := by
  refine wrap (C := Tryd.checked) own started (by kernel_rfl) Tryd.func4
    (ChangeSpec.witness_shaped (enc := enc) (C := Tryd.checked) (os := os) (X := fun w _ => laidMetH Tryd.prog laidL w) false (World.laidAll Tryd.prog os laidL) #[.agg #[.int .u8 0, .int .i64 0, .string ByteArray.empty], .agg #[.int .u8 0, .int .i64 0, .string ByteArray.empty]] 8 (World.laidAll_os _ _ _)
      (World.shaped_of_ZipB (by kernel_rfl) (by kernel_rfl)) (by kernel_rfl) (by kernel_rfl) (by kernel_rfl)
      (by rw [MakeChecks.laidMetH_plain _ _ _ (by kernel_rfl)]; exact laidMet_laidAll _ (by kernel_rfl) (by kernel_rfl))) ?_
  intro W base args ds gs before hval0 hW hsz0 hL hsh
  have hsz : (DataW.weightsEach Tryd.prog (Tryd.f4.params.toList ++ Rows.valueApartSpec.plain.varTypes Tryd.prog) (ds ++ gs)).all (· ≤ reachBytes) = true := hsz0
  have hval : ∀ (j : Nat) t v, Tryd.f4.params[j]? = some t → args[j]? = some v → Value.okWide Tryd.prog W .any base t v := hval0
  have hW' := hW
  obtain ⟨p, q, hA0, hV, rfl, hfz, hnd⟩ := hW
  have hA : DataW.TrodAll enc Tryd.prog W 0 (fun _ => true) true Tryd.f4.params.toList args.toList ds p := hA0
  rw [Tryd.params4] at hA hval hsz
  obtain ⟨v0, vs0, d0, ds0, p0, q0, hargs, rfl, rfl, h0, r0⟩ := trodAll_cons hA
  obtain ⟨v1, vs1, d1, ds1, p1, q1, rfl, rfl, rfl, h1, r1⟩ := trodAll_cons r0
  obtain ⟨rfl, rfl, rfl⟩ := trodAll_nil r1
  obtain rfl : args = #[v0, v1] := by cases args; simp_all
  obtain ⟨rfl, rfl⟩ := trodVars_none hV
  obtain ⟨k0, n0, s0, rfl, rfl, rfl, wk0, wn0, ws0⟩ := open_val (hval 0 25 v0 rfl rfl) h0
  obtain ⟨k1, n1, s1, rfl, rfl, rfl, wk1, wn1, ws1⟩ := open_val (hval 1 25 v1 rfl rfl) h1
  clear hA0 hval0 hsz0 hsz
  refine (Q.chancerylaw17_ValueApart.calls 3 k0 n0 s0 k1 n1 s1 true W (Pf.apart_true k0 n0 s0 k1 n1 s1 (i64_of wn0) (i64_of wn1)) (vok hL hsh)).mono fun e W' ⟨he, bel⟩ => ?_
  subst he
  exact ⟨_, rfl, _, _, _, [], _, [], hW', trodAll_mk1 (shut_bool Tryd.underlying4 _), (trodAll_cons_mk (shut_val wk0 wn0 ws0) (trodAll_cons_mk (shut_val wk1 wn1 ws1) trodAll_mk0)), rfl, bel.frame _, fun h => by cases h⟩
theorem over : Rows.valueApartRow.holds Tryd.pinned (OpenSpec.ofChange Rows.valueApartSpec) :=
  OpenClaim.holds_of_wide 4 Tryd.f4 rfl rfl rfl rfl rfl rfl rfl ⟨rfl, rfl, rfl, rfl, rfl⟩ rfl rfl rfl rfl rfl (by kernel_rfl) Tryd.func4 (by kernel_rfl)
    (of_decide_eq_true (by kernel_rfl)) (by unfold Func.isWrapper; first | (rw [if_pos (by decide +kernel)]; kernel_rfl) | (rw [if_neg (by decide +kernel)]; exact ⟨rfl, rfl⟩))
    (fun os started H enc _ => lifted os started H enc)
theorem proved : Rows.ValueApartSaid := over
end Go.Proofs.YtbodlnoipkommaaDoor.valueApart
namespace Go.Proofs.YtbodlnoipkommaaDoor
open Go
set_option maxRecDepth 100000 in
/-- The tied card. -/
theorem valueApartCard_holds : Rows.ValueApartCardSaid :=
  Claim7.holds_tied_plain_at .later [] [.data, .data, .data, .data, .data, .pinned] true (true, "acebfd297a6da68244793249f8eee2e59a50f107c55ed398f41256a6c8c49e27") false
    valueApart.proved (fun _ h => by cases h) (by kernel_rfl) (fun _ h => by cases h) valueApart_row_tie rfl ⟨rfl, rfl⟩ (by kernel_rfl) rfl
    (fun f fn hf hfn => by
      obtain rfl : f = 4 := Option.some.inj ((show Tryd.prog.funcNamed "chancery/chancerylaw17.ValueApart" = some 4 by kernel_rfl).symm.trans hf) |>.symm
      obtain rfl : fn = Tryd.f4 := (Option.some.inj (Tryd.func4.symm.trans hfn)).symm
      exact ⟨by kernel_rfl, fun j t ht => by
        rw [Tryd.params4] at ht
        have hm : t ∈ [25, 25] := by simpa using Array.mem_of_getElem? ht
        have hu : t = 25 := by simpa using hm
        rcases hu with rfl
        · exact (show Tryd.prog.wantsStandIn 25 = false by kernel_rfl)⟩)
    (by kernel_rfl)
#print axioms valueApartCard_holds
end Go.Proofs.YtbodlnoipkommaaDoor

/- The lexer's loops, in plain Lean: blanks and notes, and the tokens of a text. -/
import Derived.Test.YtnmdlimpfckicaaDoorM
import Derived.Test.YtnmdlimpfckicaaDoorQxf4
namespace Go.Proofs.YtnmdlimpfckicaaDoor.L
open Go.RowKit Go.Proofs.YtnmdlimpfckicaaDoor.Q Go.Proofs.YtnmdlimpfckicaaDoor.R Go.Proofs.YtnmdlimpfckicaaDoor.S Go.Proofs.YtnmdlimpfckicaaDoor.T Go.Proofs.YtnmdlimpfckicaaDoor.X Go.Proofs.YtnmdlimpfckicaaDoorW.PrintWords Go.Proofs.YtnmdlimpfckicaaDoorW.PrintLast Go.Proofs.YtnmdlimpfckicaaDoorW.PrintMore

/-- How many bytes at the beginning are blanks and notes; 'true': a note stands open. -/
def sk : Bool → List UInt8 → Nat
  | _, [] => 0
  | true, c :: r => if c = 10 then sk false r + 1 else sk true r + 1
  | false, c :: r => if blankB (c.toNat : Int) = true then sk false r + 1 else if c = 45 ∧ r.headD 0 = 45 then sk true r + 1 else 0
theorem sk_le : ∀ (b : Bool) (l : List UInt8), sk b l ≤ l.length
  | true, [] => Nat.le_refl _
  | false, [] => Nat.le_refl _
  | true, c :: r => by unfold sk; have h1 := sk_le true r; have h2 := sk_le false r; simp only [List.length_cons]; split <;> omega
  | false, c :: r => by
    unfold sk; have h1 := sk_le true r; have h2 := sk_le false r; simp only [List.length_cons]
    split
    · omega
    · split <;> omega
theorem sk_blank : ∀ l : List UInt8, sk false l = headOf blankB l + sk false (l.drop (headOf blankB l))
  | [] => rfl
  | c :: r => by
    by_cases hc : blankB (c.toNat : Int) = true
    · have e : headOf blankB (c :: r) = headOf blankB r + 1 := by conv => lhs; unfold headOf
                                                                  rw [if_pos hc]
      have e2 : sk false (c :: r) = sk false r + 1 := by conv => lhs; unfold sk
                                                         rw [if_pos hc]
      rw [e, List.drop_succ_cons, e2, sk_blank r]; omega
    · have e : headOf blankB (c :: r) = 0 := by conv => lhs; unfold headOf
                                                rw [if_neg hc]
      rw [e, List.drop_zero, Nat.zero_add]
theorem ib_cons (a q : UInt8) (l : List UInt8) : Lib.indexByte (a :: l) q = if (a == q) = true then 0 else if (Lib.indexByte l q == -1) = true then -1 else Lib.indexByte l q + 1 := by
  conv => lhs; unfold Lib.indexByte
theorem sk_note : ∀ l : List UInt8, sk true l = if Lib.indexByte l 10 < 0 then l.length else (Lib.indexByte l 10).toNat + sk false (l.drop (Lib.indexByte l 10).toNat)
  | [] => rfl
  | c :: r => by
    have ih := sk_note r
    have hge := Lib.indexByte_ge r 10
    by_cases hc : c = 10
    · subst hc
      have e : sk true (10 :: r) = sk false r + 1 := by conv => lhs; unfold sk
                                                        rw [if_pos rfl]
      have e2 : sk false (10 :: r) = sk false r + 1 := by conv => lhs; unfold sk
                                                          rw [if_pos (by decide)]
      have e3 : Lib.indexByte (10 :: r) 10 = 0 := by rw [ib_cons]; rfl
      rw [e3, e, if_neg (by decide)]
      have e4 : (0 : Int).toNat = 0 := rfl
      rw [e4, List.drop_zero, e2]; omega
    · have hb : (c == 10) = false := by simpa using hc
      have e : sk true (c :: r) = sk true r + 1 := by conv => lhs; unfold sk
                                                      rw [if_neg hc]
      rw [e, ih]
      by_cases h : Lib.indexByte r 10 = -1
      · have e3 : Lib.indexByte (c :: r) 10 = -1 := by
          rw [ib_cons, hb, h]; rfl
        rw [e3, h]; rfl
      · have hb2 : (Lib.indexByte r 10 == -1) = false := by simpa using h
        obtain ⟨o, ho⟩ : ∃ o : Nat, Lib.indexByte r 10 = o := ⟨(Lib.indexByte r 10).toNat, by omega⟩
        have e3 : Lib.indexByte (c :: r) 10 = ((o + 1 : Nat) : Int) := by
          rw [ib_cons, hb, hb2, ho, if_neg (by simp), if_neg (by simp)]; omega
        rw [e3, ho, if_neg (by omega), if_neg (by omega), Int.toNat_natCast, Int.toNat_natCast, List.drop_succ_cons]; omega
theorem pre45 (l : List UInt8) : [45, 45].isPrefixOf l = true ↔ ∃ r, l = 45 :: 45 :: r := by
  constructor
  · intro h
    match l, h with
    | [], h => simp at h
    | [_], h => simp [List.isPrefixOf] at h
    | a :: b :: r, h =>
      simp [List.isPrefixOf] at h
      exact ⟨r, by rw [← h.1, ← h.2]⟩
  · rintro ⟨r, rfl⟩; rfl
theorem sk_pre (l : List UInt8) (h : [45, 45].isPrefixOf l = true) : sk false l = sk true l := by
  obtain ⟨r, rfl⟩ := (pre45 l).mp h
  have e : sk false (45 :: 45 :: r) = sk true (45 :: r) + 1 := by
    conv => lhs; unfold sk
    rw [if_neg (by decide), if_pos ⟨rfl, rfl⟩]
  have e2 : sk true (45 :: 45 :: r) = sk true (45 :: r) + 1 := by
    conv => lhs; unfold sk
    rw [if_neg (by decide)]
  rw [e, e2]
theorem headOf_stop (p : Int → Bool) : ∀ l : List UInt8, ∀ c r, l.drop (headOf p l) = c :: r → p (c.toNat : Int) = false
  | [], c, r, h => by simp at h
  | a :: l, c, r, h => by
    by_cases ha : p (a.toNat : Int) = true
    · have e : headOf p (a :: l) = headOf p l + 1 := by conv => lhs; unfold headOf
                                                        rw [if_pos ha]
      rw [e, List.drop_succ_cons] at h
      exact headOf_stop p l c r h
    · have e : headOf p (a :: l) = 0 := by conv => lhs; unfold headOf
                                           rw [if_neg ha]
      rw [e, List.drop_zero] at h
      injection h with h1 h2
      subst h1
      simpa using ha
theorem sk_stop (l : List UInt8) (h : ¬ [45, 45].isPrefixOf (l.drop (headOf blankB l)) = true) : sk false l = headOf blankB l := by
  rw [sk_blank l]
  have : sk false (l.drop (headOf blankB l)) = 0 := by
    match hd : l.drop (headOf blankB l) with
    | [] => rfl
    | [c] =>
      have hc := headOf_stop blankB l c [] hd
      unfold sk
      rw [if_neg (by rw [hc]; simp), if_neg (by simp)]
    | c :: d :: r =>
      have hc := headOf_stop blankB l c _ hd
      unfold sk
      rw [if_neg (by rw [hc]; simp), if_neg]
      rintro ⟨rfl, h2⟩
      rw [List.headD_cons] at h2
      subst h2
      rw [hd] at h
      exact h rfl
  omega
theorem hasP_note (a0 : ByteArray) (i : Nat) : hasP (a0.extract i a0.size) ⟨#[45, 45]⟩ = [45, 45].isPrefixOf (a0.data.toList.drop i) := by
  rw [hasP_list, extract_tail]
theorem wadd (a b : Nat) (h : a + b ≤ 9223372036854775807) : wrap64 ((a : Int) + (b : Int)) = ((a + b : Nat) : Int) := by
  rw [w64 (by omega) (by omega)]; omega
theorem note_pos (l : List UInt8) (o : Nat) (hp : [45, 45].isPrefixOf l = true) (ho : Lib.indexByte l 10 = (o : Int)) : 0 < o := by
  obtain ⟨r, hr⟩ := (pre45 _).mp hp
  subst hr
  cases o with
  | zero =>
    exfalso
    have h1 := (Lib.indexByte_some ho).1
    simp at h1
  | succ o => exact Nat.succ_pos o
theorem skip_l (a0 : ByteArray) (hs : a0.size ≤ 140737488351232) : ∀ (k i : Nat), i ≤ a0.size → a0.size - i < k → lexer_skip.l0 k a0 (i : Int) = some ((i + sk false (a0.data.toList.drop i) : Nat) : Int)
  | 0, _, _, h => absurd h (Nat.not_lt_zero _)
  | k + 1, i, hi, hk => by
    have ih := Aside0.mk (skip_l a0 hs k)
    have hl := headOf_le blankB (a0.data.toList.drop i)
    rw [List.length_drop, list_size] at hl
    rw [lexer_skip.l0, if_pos (show (0 : Int) ≤ (i : Int) from Int.natCast_nonneg i), if_pos (show (i : Int) ≤ (a0.size : Int) from Int.ofNat_le.mpr hi)]
    unfold run_blank.f
    have hx : (a0.extract (i : Int).toNat a0.size).size ≤ 9223372036854775807 := by
      rw [← list_size, Int.toNat_natCast, extract_tail, List.length_drop, list_size]
      clear hl ih
      omega
    rw [if_pos hx, Int.toNat_natCast, extract_tail]
    clear hx
    rw [Option.bind_some]
    obtain ⟨n, hn⟩ : ∃ n, headOf blankB (a0.data.toList.drop i) = n := ⟨_, rfl⟩
    rw [hn] at hl
    rw [hn]
    replace hn := Aside0.mk hn
    have hin : i + n ≤ a0.size := by omega
    rw [wadd i n (by omega), if_pos (show (0 : Int) ≤ ((i + n : Nat) : Int) from Int.natCast_nonneg _), if_pos (show ((i + n : Nat) : Int) ≤ (a0.size : Int) from Int.ofNat_le.mpr hin), Int.toNat_natCast, hasP_f, hasP_note, Option.bind_some]
    have hdd : Aside0 ((a0.data.toList.drop i).drop n = a0.data.toList.drop (i + n)) := Aside0.mk (by rw [List.drop_drop])
    by_cases hp : [45, 45].isPrefixOf (a0.data.toList.drop (i + n)) = true
    · rw [if_pos hp]
      unfold strings_IndexByte.f
      have e10 : (10 : Int).toNat.toUInt8 = 10 := rfl
      rw [extract_tail, e10, Option.bind_some]
      have hsk : sk false (a0.data.toList.drop i) = n + sk true (a0.data.toList.drop (i + n)) := by
        rw [sk_blank, hn.out, hdd.out, sk_pre _ hp]
      rw [hsk, sk_note]
      clear hsk
      by_cases hneg : Lib.indexByte (a0.data.toList.drop (i + n)) 10 < 0
      · rw [if_pos hneg, if_pos hneg, List.length_drop, list_size]
        clear hneg
        have : i + (n + (a0.size - (i + n))) = a0.size := by omega
        rw [this]
      · obtain ⟨o, ho, hlt⟩ : ∃ o : Nat, Lib.indexByte (a0.data.toList.drop (i + n)) 10 = (o : Int) ∧ (o : Int) < ((a0.size - (i + n) : Nat) : Int) := by
          have hge := Int.not_lt.mp hneg
          have hlt := ib_lt (a0.data.toList.drop (i + n)) 10 hge
          rw [List.length_drop, list_size] at hlt
          generalize Lib.indexByte (a0.data.toList.drop (i + n)) 10 = q at hge hlt
          exact ⟨q.toNat, by omega, by omega⟩
        have ho1 := note_pos _ o hp ho
        rw [if_neg hneg, if_neg hneg, ho]
        clear hneg hp
        replace ho := Aside0.mk ho
        rw [wadd (i + n) o (by omega), ih.out (i + n + o) (by omega) (by omega), Int.toNat_natCast, List.drop_drop]
        have : i + n + o + sk false (a0.data.toList.drop (i + n + o)) = i + (n + (o + sk false (a0.data.toList.drop (i + n + o)))) := by
          generalize sk false (a0.data.toList.drop (i + n + o)) = z
          omega
        rw [this]
    · rw [if_neg hp]
      have := sk_stop (a0.data.toList.drop i) (by rw [hn.out, hdd.out]; exact hp)
      rw [this, hn.out]
theorem skip_f (a0 : ByteArray) (hs : a0.size ≤ 140737488351232) (k : Nat) (hk : a0.size < k) : lexer_skip.f k a0 = some ((sk false a0.data.toList : Nat) : Int) := by
  have := skip_l a0 hs k 0 (by omega) (by omega)
  rw [List.drop_zero, Nat.zero_add] at this
  exact this
/-- The tokens of a text that begins with one, and the fault. -/
def run : Nat → List UInt8 → Int → List S32 × Int × Int
  | 0, _, _ => ([], 0, 0)
  | f + 1, s, p =>
    if s = [] then ([], 0, 0) else
    if (nextL s).2.2 = 0 then ([], 290, p) else
    if (run f (s.drop ((nextL s).2.2 + sk false (s.drop (nextL s).2.2))) (p + ((nextL s).2.2 + sk false (s.drop (nextL s).2.2) : Nat))).2.1 = 0 then
      (⟨(nextL s).1, (nextL s).2.1, p⟩ :: (run f (s.drop ((nextL s).2.2 + sk false (s.drop (nextL s).2.2))) (p + ((nextL s).2.2 + sk false (s.drop (nextL s).2.2) : Nat))).1, 0, 0)
    else ([], (run f (s.drop ((nextL s).2.2 + sk false (s.drop (nextL s).2.2))) (p + ((nextL s).2.2 + sk false (s.drop (nextL s).2.2) : Nat))).2)
def toks (l : List UInt8) : List S32 × Int × Int := run l.length (l.drop (sk false l)) (sk false l : Nat)
theorem run_nil (f : Nat) (p : Int) : run f [] p = ([], 0, 0) := by
  cases f with
  | zero => rfl
  | succ f => unfold run; rw [if_pos rfl]
theorem toks_l (a0 : ByteArray) (hs : a0.size ≤ 4096) : ∀ (f k i : Nat) (acc : List S32), i ≤ a0.size → a0.size - i ≤ f → a0.size - i + 3 ≤ k → acc.length ≤ i →
    lexer_Tokens.l0 k a0 acc (i : Int) = some (if (run f (a0.data.toList.drop i) i).2.1 = 0 then (acc ++ (run f (a0.data.toList.drop i) i).1, 0, 0) else ([], (run f (a0.data.toList.drop i) i).2))
  | f, 0, i, _, _, _, h, _ => absurd h (Nat.not_succ_le_zero _)
  | 0, k + 1, i, acc, hi, hf, hk, ha => by
    rw [lexer_Tokens.l0]
    rw [if_neg (by omega), List.drop_of_length_le (by rw [list_size]; omega), run_nil]
    simp
  | f + 1, k + 1, i, acc, hi, hf, hk, ha => by
    have ih := Aside0.mk (fun k => toks_l a0 hs f k)
    rw [lexer_Tokens.l0]
    by_cases h0 : i < a0.size
    case neg =>
      rw [if_neg (by omega), List.drop_of_length_le (by rw [list_size]; omega), run_nil]
      simp
    obtain ⟨k, rfl⟩ : ∃ g, k = g + 1 + 1 := ⟨k - 2, by omega⟩
    rw [if_pos (by omega), if_pos (by omega), if_pos (by omega), Int.toNat_natCast]
    have hx : (a0.extract i a0.size).size = a0.size - i := by rw [← list_size, extract_tail, List.length_drop, list_size]
    rw [next_f _ k (by rw [hx]; clear hx; omega) (by rw [hx]; clear hx; omega), extract_tail, Option.bind_some]
    clear hx
    have hne : Aside0 (a0.data.toList.drop i ≠ []) := by
      refine Aside0.mk ?_
      intro e; have := congrArg List.length e
      rw [List.length_drop, list_size, List.length_nil] at this
      clear e
      omega
    have hle := next_le (a0.data.toList.drop i) hne.out
    rw [List.length_drop, list_size] at hle
    rw [run, if_neg hne.out]
    generalize nextL (a0.data.toList.drop i) = t at hle
    obtain ⟨kd, tx, n⟩ := t
    simp only [] at hle ⊢
    by_cases hn : n = 0
    · rw [if_pos (by omega), if_pos hn]; simp
    have hin : i + n ≤ a0.size := by omega
    rw [if_neg (by omega), if_neg hn, if_pos (by omega), wadd i n (by omega), if_pos (show (0 : Int) ≤ ((i + n : Nat) : Int) from Int.natCast_nonneg _), if_pos (show ((i + n : Nat) : Int) ≤ (a0.size : Int) from Int.ofNat_le.mpr hin), Int.toNat_natCast]
    have hx2 : (a0.extract (i + n) a0.size).size = a0.size - (i + n) := by rw [← list_size, extract_tail, List.length_drop, list_size]
    rw [skip_f _ (by rw [hx2]; clear hx2; omega) _ (by rw [hx2]; clear hx2; omega), extract_tail, Option.bind_some]
    clear hx2
    have hsl := sk_le false (a0.data.toList.drop (i + n))
    rw [List.length_drop, list_size] at hsl
    rw [List.drop_drop, List.drop_drop]
    generalize sk false (a0.data.toList.drop (i + n)) = m at hsl
    rw [wadd (i + n) m (by omega)]
    have hw3 : (i : Int) + ((n + m : Nat) : Int) = ((i + n + m : Nat) : Int) := by omega
    have hw4 : i + (n + m) = i + n + m := by omega
    rw [ih.out (k + 1 + 1) (i + n + m) _ (by omega) (by omega) (by omega) (by rw [List.length_append, List.length_singleton]; omega), hw3, hw4]
    generalize run f (a0.data.toList.drop (i + n + m)) ((i + n + m : Nat) : Int) = q
    by_cases hq : q.2.1 = 0
    · rw [if_pos hq, if_pos hq]; simp
    · rw [if_neg hq, if_neg hq]; simp [hq]
theorem run_zero (f : Nat) (s : List UInt8) (p : Int) : (run f s p).2.1 = 0 → (run f s p).2 = (0, 0) := by
  cases f with
  | zero => intro _; rfl
  | succ f =>
    unfold run
    split
    · intro _; rfl
    split
    · intro h; simp at h
    split
    · intro _; rfl
    · rename_i h; intro h'; exact absurd h' h
theorem run_bad (f : Nat) (s : List UInt8) (p : Int) : (run f s p).2.1 ≠ 0 → (run f s p).1 = [] ∧ (run f s p).2.1 = 290 := by
  induction f generalizing s p with
  | zero => intro h; exact absurd rfl h
  | succ f ih =>
    unfold run
    split
    · intro h; exact absurd rfl h
    split
    · intro _; exact ⟨rfl, rfl⟩
    split
    · intro h; exact absurd rfl h
    · rename_i h; intro _; exact ⟨rfl, (ih _ _ h).2⟩
theorem tokens_f (a0 : ByteArray) (hs : a0.size ≤ 4096) (k : Nat) (hk : a0.size + 3 ≤ k) : lexer_Tokens.f k a0 = some (toks a0.data.toList) := by
  unfold lexer_Tokens.f
  rw [if_neg (by omega), skip_f a0 (by omega) k (by omega)]
  simp only [Option.bind_some]
  have hsl := sk_le false a0.data.toList
  rw [list_size] at hsl
  rw [toks_l a0 hs a0.size k _ [] hsl (by omega) (by omega) (by simp)]
  unfold toks
  rw [list_size]
  have h1 := run_zero a0.size (a0.data.toList.drop (sk false a0.data.toList)) (sk false a0.data.toList : Nat)
  have h2 := run_bad a0.size (a0.data.toList.drop (sk false a0.data.toList)) (sk false a0.data.toList : Nat)
  generalize run a0.size (a0.data.toList.drop (sk false a0.data.toList)) (sk false a0.data.toList : Nat) = q at h1 h2
  obtain ⟨q1, q2⟩ := q
  by_cases hq : q2.1 = 0
  · rw [if_pos hq, List.nil_append]
    have := h1 hq
    simp only [] at this
    rw [this]
  · rw [if_neg hq]
    have := (h2 hq).1
    simp only [] at this
    rw [this]
theorem tokens_long (a0 : ByteArray) (hs : 4096 < a0.size) (k : Nat) : lexer_Tokens.f k a0 = some ([], 3, 0) := by
  unfold lexer_Tokens.f
  rw [if_pos (by omega)]
end Go.Proofs.YtnmdlimpfckicaaDoor.L

/- A change within four bytes next to each other changes the sum: the law SumsBursts as a statement over lists and numbers. No condition but those that the row itself bears. -/
import Derived.Test.YtipgllkapphimaaQxf5
import Derived.Test.YtipgllkapphimaaC
namespace Go.Proofs.Ytipgllkapphimaa.Pure
open Go.RowKit Go.Proofs.Ytipgllkapphimaa.Q Go.Proofs.Ytipgllkapphimaa.A Go.Proofs.Ytipgllkapphimaa.B Go.Proofs.Ytipgllkapphimaa.L Go.Proofs.Ytipgllkapphimaa.C Go.Proofs.YtipgllkapphimaaW.PrintWords Go.Proofs.YtipgllkapphimaaW.PrintLast Go.Proofs.YtipgllkapphimaaW.PrintMore

structure Near (l m : List Int) (p : Nat) : Prop where
  len : l.length = m.length
  by_ : Bytes m
  lo : m.take p = l.take p
  hi : m.drop (p + 4) = l.drop (p + 4)

theorem near_crc (l m : List Int) (p : Nat) (hl : Bytes l) (h : Near l m p) : (crcW l 0#32 == crcW m 0#32) = decide (l = m) := by
  by_cases e : l = m
  · subst e; simp
  · have : crcW l 0#32 ≠ crcW m 0#32 := by
      intro hc
      apply e
      have hF : F (l.map wrd) (ones ^^^ 0#32) = F (m.map wrd) (ones ^^^ 0#32) := by
        unfold crcW at hc
        have := congrArg (ones ^^^ ·) hc
        simpa [← BitVec.xor_assoc] using this
      have split : ∀ z : List Int, z = z.take p ++ ((z.drop p).take 4 ++ z.drop (p + 4)) := by
        intro z
        rw [← List.drop_drop, List.take_append_drop, List.take_append_drop]
      have Fs : ∀ (z : List Int) (x : W32), F (z.map wrd) x = F ((z.drop (p + 4)).map wrd) (F (((z.drop p).take 4).map wrd) (F ((z.take p).map wrd) x)) := by
        intro z x
        conv => lhs; rw [split z]
        simp [F, List.foldl_append]
      rw [Fs l, Fs m, h.lo, h.hi] at hF
      have hF := F_inj _ _ _ hF
      have hB : ∀ z, Bytes z → ∀ c ∈ ((z.drop p).take 4).map wrd, c.toNat < 256 := by
        intro z hz c hc
        obtain ⟨d, hd, rfl⟩ := List.mem_map.1 hc
        have := hz d (List.mem_of_mem_drop (List.mem_of_mem_take hd))
        exact wrd_byte d this.1 this.2
      have hmid := F_burst _ _ (hB l hl) (hB m h.by_) (by simp [h.len]) (by simp; omega) _ hF
      have hmid := wrd_inj (l := (l.drop p).take 4) (m := (m.drop p).take 4) (fun c hc => hl c (List.mem_of_mem_drop (List.mem_of_mem_take hc))) (fun c hc => h.by_ c (List.mem_of_mem_drop (List.mem_of_mem_take hc))) hmid
      rw [split l, split m, h.lo, h.hi, hmid]
    simp [e, this]

theorem loop_end (l m : List Int) (p : Nat) (hl : Bytes l) (h : Near l m p) (k : Nat) : chancerylaw02_SumsBursts.j2 (k + 1) l m = some true := by
  simp only [chancerylaw02_SumsBursts.j2]
  rw [crc_num l hl, crc_num m h.by_]
  simp only [Option.bind_some]
  unfold chancerylow_SameBytes.f
  simp only [Option.bind_some]
  rw [strOf_inj hl h.by_]
  have e : (num (crcW l 0#32) == num (crcW m 0#32)) = decide (l = m) := by
    rw [← near_crc l m p hl h]
    by_cases e : crcW l 0#32 = crcW m 0#32
    · simp [e]
    · have : num (crcW l 0#32) ≠ num (crcW m 0#32) := fun h => e (num_inj _ _ h)
      rw [beq_eq_false_iff_ne.2 this, beq_eq_false_iff_ne.2 e]
  rw [e]
  simp [awake_some]

theorem loop_all (l : List Int) (hlen : l.length ≤ 20000) (hl : Bytes l) (p c : Int) (hp0 : 0 ≤ p) (hp : p < l.length) (d : Nat) : ∀ (m : List Int) (i : Int), 0 ≤ i → i ≤ 4 → 4 - i = d → Near l m p.toNat →
    ∃ k, chancerylaw02_SumsBursts.l0 k l p c m i = some true := by
  have w1 : ∀ i : Int, 0 ≤ i → i ≤ 4 → wrap64 (p + i) = p + i := by intro i h0 h1; unfold wrap64; omega
  have w2 : ∀ i : Int, 0 ≤ i → i ≤ 4 → wrap64 (i + 1) = i + 1 := by intro i h0 h1; unfold wrap64; omega
  have w3 : ∀ i : Int, 0 ≤ i → i ≤ 4 → 0 ≤ IntKind.u64.wrap (wrap64 (8 * i)) := by
    intro i h0 h1
    have e : ∀ n : Int, IntKind.u64.wrap n = n % 18446744073709551616 := fun n => rfl
    rw [e]; omega
  induction d with
  | zero =>
    intro m i h0 h1 hd hn
    refine ⟨2, ?_⟩
    simp only [chancerylaw02_SumsBursts.l0]
    rw [if_neg (by omega)]
    exact loop_end l m _ hl hn _
  | succ d ih =>
    intro m i h0 h1 hd hn
    by_cases hlt : p + i < l.length
    · have hn' : Near l (m.set (p + i).toNat (bits .xor .u8 (rd m (p + i)) ((shr .u32 c (IntKind.u64.wrap (wrap64 (8 * i)))) % 256))) p.toNat := by
        refine ⟨by simp [hn.len], ?_, ?_, ?_⟩
        · intro x hx
          rcases List.mem_or_eq_of_mem_set hx with hx | rfl
          · exact hn.by_ x hx
          · exact xor_byte _ _
        · rw [← hn.lo, List.take_set_of_le (by omega)]
        · rw [← hn.hi, List.drop_set_of_lt (by omega)]
      obtain ⟨k, hk⟩ := ih _ (i + 1) (by omega) (by omega) (by omega) hn'
      refine ⟨k + 1, ?_⟩
      simp only [chancerylaw02_SumsBursts.l0]
      have hml : (m.length : Int) = l.length := by rw [hn.len]
      rw [if_pos (by omega), w1 i h0 h1, if_pos hlt, if_pos (by omega), if_pos (by omega), if_pos (w3 i h0 h1), w2 i h0 h1]
      exact hk
    · refine ⟨2, ?_⟩
      simp only [chancerylaw02_SumsBursts.l0]
      rw [if_pos (by omega), w1 i h0 h1, if_neg hlt]
      exact loop_end l m _ hl hn _

theorem pick_in (a n : Int) (hn : 0 < n) (hn2 : n ≤ 20000) : ∃ p, chancerylow_Pick.f a n = some p ∧ 0 ≤ p ∧ p < n := by
  unfold chancerylow_Pick.f
  rw [if_neg (by omega), if_neg (by omega)]
  have h1 := Int.tmod_lt_of_pos a hn
  have h2 : -n < Int.tmod a n := by have := Int.lt_tmod_of_pos a hn; omega
  by_cases h : Int.tmod a n < 0
  · rw [if_pos h]
    exact ⟨_, rfl, by unfold wrap64; omega, by unfold wrap64; omega⟩
  · rw [if_neg h]
    exact ⟨_, rfl, by omega, by omega⟩

theorem SumsBursts : chancerylaw02_SumsBursts.Pure := by
  intro l a c _ _ hw _ _
  have hl : Bytes l := fun x hx => wf_byte (hw x hx)
  unfold chancerylaw02_SumsBursts.f
  by_cases h : (l.length : Int) > 20000
  · refine ⟨1, ?_⟩
    rw [if_pos h]; simp only [chancerylaw02_SumsBursts.j0]; rfl
  · by_cases h0 : (l.length : Int) = 0
    · refine ⟨1, ?_⟩
      rw [if_neg h]; simp only [chancerylaw02_SumsBursts.j0]; rw [beq_iff_eq.2 h0]; rfl
    · obtain ⟨p, hp, hp0, hp1⟩ := pick_in a l.length (by omega) (by omega)
      obtain ⟨k, hk⟩ := loop_all l (by omega) hl p c hp0 hp1 4 l 0 (by omega) (by omega) (by omega) ⟨rfl, hl, rfl, rfl⟩
      refine ⟨k + 1, ?_⟩
      rw [if_neg h]
      simp only [chancerylaw02_SumsBursts.j0]
      rw [beq_eq_false_iff_ne.2 h0, hp]
      simp only [Option.bind_some, Bool.false_eq_true, if_false]
      unfold chancerylow_CopyBytes.f
      rw [if_pos (by simp; omega)]
      simpa using hk

end Go.Proofs.Ytipgllkapphimaa.Pure

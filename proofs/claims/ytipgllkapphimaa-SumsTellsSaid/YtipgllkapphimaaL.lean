import Derived.Test.YtipgllkapphimaaA
/-! The plain theory of the sum: over words of 32 bits. -/
namespace Go.Proofs.Ytipgllkapphimaa.L
open Go.Proofs.Ytipgllkapphimaa.A
abbrev W32 := BitVec 32
def P : W32 := 0xEDB88320#32
def T (x : W32) : W32 := (x >>> 1) ^^^ (if x.getLsbD 0 then P else 0#32)

theorem T_xor (x y : W32) : T (x ^^^ y) = T x ^^^ T y := by
  unfold T
  rw [BitVec.getLsbD_xor]
  cases hx : x.getLsbD 0 <;> cases hy : y.getLsbD 0 <;> simp [BitVec.ushiftRight_xor_distrib, BitVec.xor_assoc]
  · rw [BitVec.xor_comm (y >>> 1) P]
  · rw [BitVec.xor_comm (y >>> 1) P, ← BitVec.xor_assoc, BitVec.xor_self, BitVec.zero_xor]

theorem T_zero : T 0#32 = 0#32 := by decide
theorem T_eq_zero (x : W32) (h : T x = 0#32) : x = 0#32 := by
  have h31 : (T x).getLsbD 31 = x.getLsbD 0 := by
    unfold T
    rw [BitVec.getLsbD_xor, BitVec.getLsbD_ushiftRight]
    have : x.getLsbD (1 + 31) = false := BitVec.getLsbD_of_ge x 32 (by decide)
    rw [this]
    cases x.getLsbD 0 <;> simp [P]
  rw [h] at h31
  have h0 : x.getLsbD 0 = false := by rw [← h31]; simp
  have hs : x >>> 1 = 0#32 := by
    have := h
    unfold T at this
    rw [h0] at this
    simpa using this
  apply BitVec.eq_of_getLsbD_eq
  intro i hi
  cases i with
  | zero => simpa using h0
  | succ i =>
    have := congrArg (fun v => BitVec.getLsbD v i) hs
    simp only [BitVec.getLsbD_ushiftRight] at this
    rw [Nat.add_comm] at this
    simpa using this

theorem T_inj (x y : W32) (h : T x = T y) : x = y := by
  have := T_eq_zero (x ^^^ y) (by rw [T_xor, h, BitVec.xor_self])
  exact BitVec.xor_eq_zero_iff.1 this

def Tn : Nat → W32 → W32
  | 0, x => x
  | n + 1, x => T (Tn n x)
theorem Tn_xor (n : Nat) (x y : W32) : Tn n (x ^^^ y) = Tn n x ^^^ Tn n y := by
  induction n with
  | zero => rfl
  | succ n ih => simp only [Tn]; rw [ih, T_xor]
theorem Tn_inj (n : Nat) (x y : W32) (h : Tn n x = Tn n y) : x = y := by
  induction n with
  | zero => exact h
  | succ n ih => exact ih (T_inj _ _ h)

def step (x c : W32) : W32 := Tn 8 (x ^^^ c)
def F (l : List W32) (x : W32) : W32 := l.foldl step x
theorem step_xor (x y c d : W32) : step (x ^^^ y) (c ^^^ d) = step x c ^^^ step y d := by
  unfold step
  rw [← Tn_xor]
  congr 1
  simp only [BitVec.xor_assoc]
  congr 1
  rw [← BitVec.xor_assoc, BitVec.xor_comm y c, BitVec.xor_assoc]
theorem F_xor (l m : List W32) (x y : W32) (h : l.length = m.length) : F (List.zipWith (· ^^^ ·) l m) (x ^^^ y) = F l x ^^^ F m y := by
  induction l generalizing m x y with
  | nil => cases m with | nil => rfl | cons => simp at h
  | cons c l ih =>
    cases m with
    | nil => simp at h
    | cons d m =>
      simp only [List.zipWith_cons_cons, F, List.foldl_cons]
      rw [step_xor]
      exact ih m _ _ (by simpa using h)
theorem F_inj (l : List W32) (x y : W32) (h : F l x = F l y) : x = y := by
  induction l generalizing x y with
  | nil => exact h
  | cons c l ih =>
    have := ih _ _ h
    have := Tn_inj 8 _ _ this
    have h2 := congrArg (· ^^^ c) this
    simpa [BitVec.xor_assoc] using h2

/-- A word whose top bit is not set, moved up by one, comes back. -/
theorem T_shl (z : W32) (h : z.getLsbD 31 = false) : T (z <<< 1) = z := by
  unfold T
  have h0 : (z <<< 1).getLsbD 0 = false := by simp
  rw [h0]
  apply BitVec.eq_of_getLsbD_eq
  intro i hi
  simp
  by_cases h31 : i = 31
  · subst h31; simp; rw [← BitVec.getLsbD_eq_getElem]; exact h
  · simp [show 1 + i < 32 by omega]
theorem small_bit (y : W32) (n k : Nat) (h : y.toNat < 2 ^ n) (hk : n ≤ k) : y.getLsbD k = false := by
  rw [BitVec.getLsbD, Nat.testBit_lt_two_pow]
  exact Nat.lt_of_lt_of_le h (Nat.pow_le_pow_right (by decide) hk)
theorem Tn_shl (k : Nat) (y : W32) (h : y.toNat < 2 ^ (32 - k)) (hk : k ≤ 32) : Tn k (y <<< k) = y := by
  induction k with
  | zero => simp [Tn]
  | succ k ih =>
    have e : y <<< (k + 1) = (y <<< 1) <<< k := by rw [BitVec.shiftLeft_add y 1 k |>.symm, Nat.add_comm]
    have T1 : ∀ (n : Nat) (x : W32), Tn (n + 1) x = Tn n (T x) := by
      intro n x
      induction n with
      | zero => rfl
      | succ n ih => simp only [Tn] at ih ⊢; rw [ih]
    have e2 : y <<< (k + 1) = (y <<< k) <<< 1 := BitVec.shiftLeft_add y k 1
    rw [T1, e2, T_shl]
    · exact ih (Nat.lt_of_lt_of_le h (Nat.pow_le_pow_right (by decide) (by omega))) (by omega)
    · rw [BitVec.getLsbD_shiftLeft]
      simp
      intro hk31
      exact small_bit y (32 - (k + 1)) _ h (by omega)

theorem lt_of_bits (x : W32) (n : Nat) (h : ∀ i, n ≤ i → x.getLsbD i = false) : x.toNat < 2 ^ n :=
  Nat.lt_pow_two_of_testBit _ fun i hi => by rw [← BitVec.getLsbD]; exact h i hi
theorem step_back (x c y : W32) (h : step x c = y) (hy : y.toNat < 2 ^ 24) : x ^^^ c = y <<< 8 := by
  refine Tn_inj 8 _ _ ?_
  rw [Tn_shl 8 y hy (by decide)]
  exact h
theorem x_of (x c z : W32) (h : x ^^^ c = z) : x = z ^^^ c := by
  rw [← h, BitVec.xor_assoc, BitVec.xor_self, BitVec.xor_zero]
theorem F_small (l : List W32) (hl : ∀ c ∈ l, c.toNat < 256) (n : Nat) (hn : n + 8 * l.length ≤ 32) (x : W32) (h : (F l x).toNat < 2 ^ n) : x.toNat < 2 ^ (n + 8 * l.length) := by
  induction l generalizing x with
  | nil => exact h
  | cons c l ih =>
    simp only [List.length_cons] at hn ⊢
    have hy := ih (fun d hd => hl d (by simp [hd])) (by omega) (step x c) h
    have hy24 : (step x c).toNat < 2 ^ 24 := Nat.lt_of_lt_of_le hy (Nat.pow_le_pow_right (by decide) (by omega))
    have e := x_of _ _ _ (step_back x c _ rfl hy24)
    have hc := hl c (by simp)
    refine lt_of_bits _ _ fun i hi => ?_
    rw [e, BitVec.getLsbD_xor, BitVec.getLsbD_shiftLeft]
    rw [small_bit c 8 i hc (by omega)]
    simp
    intro _ _
    exact small_bit _ _ _ hy (by omega)
theorem F_zero (l : List W32) (hl : ∀ c ∈ l, c.toNat < 256) (h4 : l.length ≤ 4) (h : F l 0#32 = 0#32) : ∀ c ∈ l, c = 0#32 := by
  induction l with
  | nil => intro c hc; cases hc
  | cons c l ih =>
    simp only [List.length_cons] at h4
    have hy := F_small l (fun d hd => hl d (by simp [hd])) 0 (by omega) (step 0#32 c) (by show (F (c :: l) 0#32).toNat < 2 ^ 0; rw [h]; decide)
    have hy24 : (step 0#32 c).toNat < 2 ^ 24 := Nat.lt_of_lt_of_le hy (Nat.pow_le_pow_right (by decide) (by omega))
    have e := step_back 0#32 c _ rfl hy24
    rw [BitVec.zero_xor] at e
    have hc := hl c (by simp)
    have c0 : c = 0#32 := by
      apply BitVec.eq_of_getLsbD_eq
      intro i hi
      by_cases h8 : i < 8
      · rw [e, BitVec.getLsbD_shiftLeft]; simp [h8]
      · rw [small_bit c 8 i hc (by omega)]; simp
    subst c0
    intro d hd
    rcases List.mem_cons.1 hd with rfl | hd
    · rfl
    · have s0 : step 0#32 0#32 = 0#32 := by decide
      refine ih (fun d hd => hl d (by simp [hd])) (by omega) ?_ d hd
      have h2 : F l (step 0#32 0#32) = 0#32 := h
      rwa [s0] at h2

/-- THE BURST: the same place, two stretches of at most four bytes. -/
theorem F_burst (l m : List W32) (hl : ∀ c ∈ l, c.toNat < 256) (hm : ∀ c ∈ m, c.toNat < 256) (hlm : l.length = m.length) (h4 : l.length ≤ 4) (x : W32) (h : F l x = F m x) : l = m := by
  have hz : F (List.zipWith (· ^^^ ·) l m) 0#32 = 0#32 := by
    have := F_xor l m x x hlm
    rw [BitVec.xor_self, h, BitVec.xor_self] at this
    exact this
  have hb : ∀ c ∈ List.zipWith (· ^^^ ·) l m, c.toNat < 256 := by
    intro c hc
    obtain ⟨i, hi, rfl⟩ := List.mem_iff_getElem.1 hc
    simp at hi
    rw [List.getElem_zipWith]
    refine lt_of_bits _ 8 fun k hk => ?_
    rw [BitVec.getLsbD_xor, small_bit _ 8 k (hl _ (List.getElem_mem _)) hk, small_bit _ 8 k (hm _ (List.getElem_mem _)) hk]
    rfl
  have hall := F_zero _ hb (by simp; omega) hz
  apply List.ext_getElem hlm
  intro i h1 h2
  have := hall _ (List.getElem_mem (l := List.zipWith (· ^^^ ·) l m) (n := i) (by simp; omega))
  rw [List.getElem_zipWith] at this
  exact BitVec.xor_eq_zero_iff.1 this

/-! ### the numbers of the walk as words -/
def num (x : W32) : Int := (x.toNat : Int)
def wrd (x : Int) : W32 := BitVec.ofInt 32 x
theorem num_lo (x : W32) : 0 ≤ num x ∧ num x < 4294967296 := by unfold num; have := x.isLt; omega
theorem wrd_num (x : W32) : wrd (num x) = x := by
  unfold wrd num
  rw [BitVec.ofInt_natCast, BitVec.ofNat_toNat, BitVec.setWidth_eq]
theorem num_wrd (x : Int) (h0 : 0 ≤ x) (h1 : x < 4294967296) : num (wrd x) = x := by
  unfold wrd num
  rw [BitVec.toNat_ofInt]
  omega
theorem num_inj (x y : W32) (h : num x = num y) : x = y := by rw [← wrd_num x, h, wrd_num]
theorem wrap_nat (n : Nat) (h : n < 4294967296) : IntKind.u32.wrap (n : Int) = n := by
  show (n : Int) % 4294967296 = n
  omega
theorem bits_xor (x y : W32) : bits .xor .u32 (num x) (num y) = num (x ^^^ y) := by
  unfold bits
  show IntKind.u32.wrap ((wrd (num x) ^^^ wrd (num y)).toNat : Int) = _
  rw [wrd_num, wrd_num]
  exact wrap_nat _ (x ^^^ y).isLt
theorem turn_num (x : W32) : turn (num x) = num (T x) := by
  have e1 : bits BinOp.and IntKind.u32 (num x) 1 = if x.getLsbD 0 then 1 else 0 := by
    unfold bits
    show IntKind.u32.wrap ((wrd (num x) &&& wrd 1).toNat : Int) = _
    rw [wrd_num]
    have : (x &&& wrd 1) = if x.getLsbD 0 then 1#32 else 0#32 := by
      apply BitVec.eq_of_getLsbD_eq
      intro i hi
      have h1 : wrd 1 = 1#32 := by decide
      rw [h1, BitVec.getLsbD_and]
      by_cases hi0 : i = 0
      · subst hi0; cases h : x.getLsbD 0 <;> simp
      · cases h : x.getLsbD 0 <;> simp [BitVec.getLsbD_one, hi0]
    rw [this]
    cases x.getLsbD 0 <;> rfl
  have e2 : num x / (2 : Int) = num (x >>> 1) := by
    unfold num
    rw [BitVec.toNat_ushiftRight, Nat.shiftRight_eq_div_pow]
    omega
  have e3 : (3988292384 : Int) = num P := by decide
  unfold turn T
  rw [e1, e2]
  cases h : x.getLsbD 0
  · simp
  · simp only [if_true]
    rw [e3, bits_xor]
    rfl
theorem turns_num (n : Nat) (x : W32) : turns n (num x) = num (Tn n x) := by
  induction n with
  | zero => rfl
  | succ n ih => simp only [turns, Tn]; rw [ih, turn_num]
theorem wrd_byte (c : Int) (h0 : 0 ≤ c) (h1 : c < 256) : (wrd c).toNat < 256 := by
  have := num_wrd c h0 (by omega)
  unfold num at this
  omega
theorem fold_num (l : List Int) (hl : ∀ c ∈ l, 0 ≤ c ∧ c < 256) (x : W32) : fold l (num x) = num (F (l.map wrd) x) := by
  induction l generalizing x with
  | nil => rfl
  | cons c l ih =>
    have hc := hl c (by simp)
    have e : byteStep (num x) c = num (step x (wrd c)) := by
      unfold byteStep step
      rw [show c % 4294967296 = num (wrd c) by rw [num_wrd c hc.1 (by omega)]; omega, bits_xor, turns_num]
    show fold l (byteStep (num x) c) = num (F (l.map wrd) (step x (wrd c)))
    rw [e]
    exact ih (fun d hd => hl d (by simp [hd])) _
def ones : W32 := 4294967295#32
def crcW (l : List Int) (x : W32) : W32 := ones ^^^ F (l.map wrd) (ones ^^^ x)
theorem more_num (l : List Int) (hl : ∀ c ∈ l, 0 ≤ c ∧ c < 256) (x : W32) : sums_More.f (num x) l = some (num (crcW l x)) := by
  unfold sums_More.f crcW
  rw [show (4294967295 : Int) = num ones by decide, bits_xor, fold_num l hl, bits_xor]
end Go.Proofs.Ytipgllkapphimaa.L

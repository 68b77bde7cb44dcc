/- Merged out of this session's texts: Pb, Wl, Qxf20, Pc, Ra, Rb -/
import Derived.Test.YtbodlnoipkommaaDoorZr4
import Derived.Test.YtbodlnoipkommaaDoorZr3
import Derived.Deep.QuietTactic
import Derived.BigQuiet
import Derived.Laws.BitsAllLaws
import Derived.LoopN
import Derived.Test.YtbodlnoipkommaaDoorProg
import Derived.Test.YtbodlnoipkommaaDoorZr1
import Derived.WalkKit
import Derived.WalkSpells
import Derived.StillTactics
import Derived.Laws.Pointers
import Derived.RowKit3
set_option linter.unusedVariables false
set_option linter.unusedSimpArgs false
namespace Go.Proofs.YtbodlnoipkommaaDoor.Pb
open Go.RowKit Go.Proofs.YtbodlnoipkommaaDoor.Q Go.Proofs.YtbodlnoipkommaaDoor.We Go.Proofs.YtbodlnoipkommaaDoor.Wf Go.Proofs.YtbodlnoipkommaaDoor.Wg Go.Proofs.YtbodlnoipkommaaDoor.Wh Go.Proofs.YtbodlnoipkommaaDoor.Wj Go.Proofs.YtbodlnoipkommaaDoor.Wk Go.Proofs.YtbodlnoipkommaaDoor.Wo Go.Proofs.YtbodlnoipkommaaDoor.Wp Go.Proofs.YtbodlnoipkommaaDoor.Wq Go.Proofs.YtbodlnoipkommaaDoor.Ws Go.Proofs.YtbodlnoipkommaaDoor.Wt Go.Proofs.YtbodlnoipkommaaDoor.Pa Go.Proofs.YtbodlnoipkommaaDoorW.PrintWords Go.Proofs.YtbodlnoipkommaaDoorW.PrintLast Go.Proofs.YtbodlnoipkommaaDoorW.PrintMore
def boolT (b : Bool) : Int := bif b then 1 else 0
def cmpop (op c : Int) : Bool :=
  bif op == 7 then c == 0 else bif op == 8 then c != 0 else bif op == 9 then decide (c < 0) else bif op == 10 then decide (c ≤ 0) else bif op == 11 then decide (c > 0) else bif op == 12 then decide (c ≥ 0) else false
def fixV (k n : Int) : Int := if k = 2 then n * 10000 else n
def sgn (d : Int) : Int := if d < 0 then -1 else if d = 0 then 0 else 1
def compareR (op k0 n0 : Int) (s0 : ByteArray) (k1 n1 : Int) (s1 : ByteArray) : Int × Int :=
  if op < 7 ∨ op > 12 ∨ rightB k0 n0 s0 = false ∨ rightB k1 n1 s1 = false then (0, 2) else
  if k0 = 0 ∨ k1 = 0 then (2, 0) else
  if k0 = k1 then (boolT (cmpop op (orderR k0 n0 s0 k1 n1 s1)), 0) else
  if numB k0 = true ∧ numB k1 = true then (boolT (cmpop op (sgn (fixV k0 n0 - fixV k1 n1))), 0) else (0, 270)
theorem fix_range (k n : Int) (hn : I64 n) : I128 (fixV k n) ∧ I128 (-fixV k n) ∧ ∀ k' n', I64 n' → I128 (fixV k n + fixV k' n') ∧ I128 (fixV k n - fixV k' n') ∧ I128 (fixV k n + -fixV k' n') := by
  obtain ⟨h1, h2⟩ := hn
  refine ⟨?_, ?_, ?_⟩
  · unfold fixV I128; split <;> omega
  · unfold fixV I128; split <;> omega
  · intro k' n' ⟨h3, h4⟩
    refine ⟨?_, ?_, ?_⟩ <;> (unfold fixV I128; split <;> split <;> omega)
theorem fixed_fV (k n : Int) (s : ByteArray) (hn : I64 n) : value_fixed.f k n s = some (hi (fixV k n), lo (fixV k n)) := fixed_f k n s hn
theorem sgn_f (d : Int) (hd : I128 d) : (if cmpI (hi d) 0 = 0 then (if lo d = 0 then cmpI (hi d) 0 else 1) else cmpI (hi d) 0) = sgn d := by
  obtain ⟨h1, h2⟩ := hd
  unfold sgn
  by_cases hneg : d < 0
  · have h : hi d < 0 := (hi_neg d).2 hneg
    have e : cmpI (hi d) 0 = -1 := by unfold cmpI; rw [if_pos h]
    rw [e, if_neg (by decide), if_pos hneg]
  · have h : ¬ hi d < 0 := fun c => hneg ((hi_neg d).1 c)
    rw [if_neg hneg]
    by_cases hz : hi d = 0
    · have e : cmpI (hi d) 0 = 0 := cmpI_zero.2 hz
      rw [e, if_pos rfl]
      by_cases hl : lo d = 0
      · have : d = 0 := by unfold hi lo at *; omega
        rw [if_pos hl, if_pos this]
      · have : d ≠ 0 := by rintro rfl; exact hl rfl
        rw [if_neg hl, if_neg this]
    · have e : cmpI (hi d) 0 = 1 := by unfold cmpI; rw [if_neg h, if_pos (by omega)]
      have : d ≠ 0 := by rintro rfl; exact hz rfl
      rw [e, if_neg (by decide), if_neg this]
def toldR (k x : Int) : V4 := if I64 x then (k, x, ⟨#[]⟩, 0) else (0, 0, ⟨#[]⟩, 271)
theorem told_fR (x k : Int) (hx : I128 x) : vw_told.f (hi x) (lo x) k = some (toldR k x) := by
  rw [told_f x k hx]; unfold toldR; split <;> rfl
def addR (k0 n0 : Int) (s0 : ByteArray) (k1 n1 : Int) (s1 : ByteArray) : V4 :=
  if (askedR k0 n0 s0 k1 n1 s1).2 ≠ 0 ∨ (askedR k0 n0 s0 k1 n1 s1).1 = true then (0, 0, ⟨#[]⟩, (askedR k0 n0 s0 k1 n1 s1).2) else
  if k0 = 2 ∧ k1 = 2 then toldR 2 (n0 + n1) else toldR 3 (fixV k0 n0 + fixV k1 n1)
def subR (k0 n0 : Int) (s0 : ByteArray) (k1 n1 : Int) (s1 : ByteArray) : V4 :=
  if (askedR k0 n0 s0 k1 n1 s1).2 ≠ 0 ∨ (askedR k0 n0 s0 k1 n1 s1).1 = true then (0, 0, ⟨#[]⟩, (askedR k0 n0 s0 k1 n1 s1).2) else
  if k0 = 2 ∧ k1 = 2 then toldR 2 (n0 - n1) else toldR 3 (fixV k0 n0 - fixV k1 n1)
theorem join_add (x y k : Int) (hx : I128 x) (hy : I128 y) (hs : I128 (x + y)) : joinF idF (some (hi x, lo x)) (some (hi y, lo y)) k = some (toldR k (x + y)) := by
  unfold joinF idF
  simp only [Option.bind_some]
  rw [plus_f x y hx hy hs]
  simp only [Option.bind_some]
  exact told_fR _ _ hs
theorem join_sub (x y k : Int) (hx : I128 x) (hy : I128 y) (hy' : I128 (-y)) (hs : I128 (x - y)) : joinF vw_minus.f (some (hi x, lo x)) (some (hi y, lo y)) k = some (toldR k (x - y)) := by
  unfold joinF
  simp only [Option.bind_some]
  rw [minus_f y hy hy']
  simp only [Option.bind_some]
  have e : x + -y = x - y := by omega
  rw [plus_f x (-y) hx hy' (by rw [e]; exact hs)]
  simp only [Option.bind_some]
  rw [e]
  exact told_fR _ _ hs
theorem sum_range {n0 n1 : Int} (h0 : I64 n0) (h1 : I64 n1) : I128 (n0 + n1) ∧ I128 (n0 - n1) := by
  obtain ⟨a, b⟩ := h0
  obtain ⟨c, d⟩ := h1
  constructor <;> (unfold I128; omega)
theorem add_f (k0 n0 : Int) (s0 : ByteArray) (k1 n1 : Int) (s1 : ByteArray) (h0 : I64 n0) (h1 : I64 n1) : value_Add.f k0 n0 s0 k1 n1 s1 = some (addR k0 n0 s0 k1 n1 s1) := by
  unfold value_Add.f sumF addR
  by_cases ha : (askedR k0 n0 s0 k1 n1 s1).2 ≠ 0 ∨ (askedR k0 n0 s0 k1 n1 s1).1 = true
  · rw [if_pos ha, if_pos ha]
  rw [if_neg ha, if_neg ha]
  by_cases hk : k0 = 2 ∧ k1 = 2
  · rw [if_pos hk, if_pos hk, of_f n0 h0, of_f n1 h1]
    exact join_add _ _ _ (I128_of_I64 h0).1 (I128_of_I64 h1).1 (sum_range h0 h1).1
  · rw [if_neg hk, if_neg hk, fixed_fV k0 n0 s0 h0, fixed_fV k1 n1 s1 h1]
    exact join_add _ _ _ (fix_range k0 n0 h0).1 (fix_range k1 n1 h1).1 ((fix_range k0 n0 h0).2.2 k1 n1 h1).1
theorem sub_f (k0 n0 : Int) (s0 : ByteArray) (k1 n1 : Int) (s1 : ByteArray) (h0 : I64 n0) (h1 : I64 n1) : value_Sub.f k0 n0 s0 k1 n1 s1 = some (subR k0 n0 s0 k1 n1 s1) := by
  unfold value_Sub.f sumF subR
  by_cases ha : (askedR k0 n0 s0 k1 n1 s1).2 ≠ 0 ∨ (askedR k0 n0 s0 k1 n1 s1).1 = true
  · rw [if_pos ha, if_pos ha]
  rw [if_neg ha, if_neg ha]
  by_cases hk : k0 = 2 ∧ k1 = 2
  · rw [if_pos hk, if_pos hk, of_f n0 h0, of_f n1 h1]
    exact join_sub _ _ _ (I128_of_I64 h0).1 (I128_of_I64 h1).1 (I128_of_I64 h1).2 (sum_range h0 h1).2
  · rw [if_neg hk, if_neg hk, fixed_fV k0 n0 s0 h0, fixed_fV k1 n1 s1 h1]
    exact join_sub _ _ _ (fix_range k0 n0 h0).1 (fix_range k1 n1 h1).1 (fix_range k1 n1 h1).2.1 ((fix_range k0 n0 h0).2.2 k1 n1 h1).2.1
end Go.Proofs.YtbodlnoipkommaaDoor.Pb
namespace Go.Proofs.YtbodlnoipkommaaDoor.Wl
open Go.RowKit Go.Proofs.YtbodlnoipkommaaDoor.Wf Go.Proofs.YtbodlnoipkommaaDoor.We Go.Proofs.YtbodlnoipkommaaDoorW.PrintWords Go.Proofs.YtbodlnoipkommaaDoorW.PrintLast Go.Proofs.YtbodlnoipkommaaDoorW.PrintMore
set_option maxRecDepth 100000 in
set_option maxHeartbeats 2000000 in
theorem div0 (b : Int) (h0 : 0 ≤ b) (h1 : b < 18446744073709551616) (w : World) :
    Calls Tryd.prog 62 #[.int .u64 0, .int .u64 b, .int .u64 10000] w fun e w' => e = .returned (.tuple #[.int .u64 (b / 10000), .int .u64 (b % 10000)]) ∧ Drawn0 w w' := by
  go_enter Tryd.func62, Tryd.ntmps62
  go_wp2_with fail
  go_quiet (fail)
  go_wp2
  go_ret2
  exact ⟨rfl, nq, rfl⟩
theorem lz (w : World) : Calls Tryd.prog 86 #[.int .u64 10000] w fun e w' => e = .returned (.int .i64 50) ∧ w' = w := by
  have h := Tryd.bits_LeadingZeros64 10000 w (by decide) (by decide)
  rwa [show (64 - (Lib.bitLen (10000 : Int).toNat : Int)) = 50 by decide] at h
theorem or_disjoint (a b : Nat) (ha : a < 10000) (hb : b < 18446744073709551616) :
    bits .or .u64 ((a : Int) * 1125899906842624) ((b : Int) / 16384) = ((a * 1125899906842624 + b / 16384 : Nat) : Int) := by
  have h1 : b / 16384 < 2 ^ 50 := by omega
  have e : (a * 1125899906842624) ||| (b / 16384) = a * 1125899906842624 + b / 16384 := by
    have := Nat.two_pow_add_eq_or_of_lt h1 a
    rw [Nat.mul_comm] at this
    exact this.symm
  have h := u64_or_nat (a * 1125899906842624) (b / 16384) (by omega) (by omega)
  rw [e] at h
  rw [← h]
  congr 1
  all_goals omega
theorem and_mask (l : Nat) (hl : l < 18446744073709551616) : bits .and .u64 (l : Int) 4294967295 = ((l % 4294967296 : Nat) : Int) := by
  have h := u64_and_nat l 4294967295 hl (by omega)
  have e : l &&& 4294967295 = l % 4294967296 := Nat.and_two_pow_sub_one_eq_mod l 32
  rw [e] at h
  exact h
theorem w1 (X : Int) (h0 : 0 ≤ X) (h1 : X < 11258999068426240000) : IntKind.u64.wrap (X - X / 2621440000 * 2621440000) = X % 2621440000 := by rw [IntKind.wrap_u64]; omega
set_option maxRecDepth 100000 in
set_option maxHeartbeats 2000000 in
theorem div1 (a b X L U R S : Int) (ha0 : 1 ≤ a) (ha : a < 10000) (hb0 : 0 ≤ b) (h1 : b < 18446744073709551616) (hX : bits .or .u64 (a * 1125899906842624) (b / 16384) = X) (hL : IntKind.u64.wrap (b * 1125899906842624) = L)
    (hU : bits .and .u64 L 4294967295 = U) (hA : bits .and .u64 11258999068426240000 4294967295 = 0)
    (bX0 : 0 ≤ X) (bX : X < 11258999068426240000) (bL0 : 0 ≤ L) (bL : L < 18446744073709551616) (bU0 : 0 ≤ U) (bU : U < 4294967296)
    (hR : IntKind.u64.wrap (IntKind.u64.wrap (IntKind.u64.wrap (X * 4294967296) + L / 4294967296) - IntKind.u64.wrap (X / 2621440000 * 11258999068426240000)) = R) (bR0 : 0 ≤ R) (bR : R < 11258999068426240000)
    (hS : IntKind.u64.wrap (IntKind.u64.wrap (IntKind.u64.wrap (R * 4294967296) + U) - IntKind.u64.wrap (R / 2621440000 * 11258999068426240000)) = S) (bS0 : 0 ≤ S) (bS : S < 11258999068426240000) (w : World) :
    Calls Tryd.prog 62 #[.int .u64 a, .int .u64 b, .int .u64 10000] w fun e w' => e = .returned (.tuple #[.int .u64 (X / 2621440000 * 4294967296 + R / 2621440000), .int .u64 (S / 1125899906842624)]) ∧ Drawn0 w w' := by
  have e1 : ¬ (a = 0) := by omega
  have e2 : ¬ (10000 ≤ a) := by omega
  have hw1 := w1 X bX0 bX
  have hw2 := w1 R bR0 bR
  go_enter Tryd.func62, Tryd.ntmps62
  go_wp2_with fail
  refine (lz w).mono ?_
  rintro e w' ⟨rfl, rfl⟩
  go_wp2_with fail
  have e3 : ¬ (4294967296 ≤ X / 2621440000) := by omega
  have k1 : 0 ≤ X / 2621440000 := by omega
  have k3 : 0 ≤ X % 2621440000 := by omega
  have k4 : X % 2621440000 < 2621440000 := by omega
  have k5 : 0 ≤ L / 4294967296 := by omega
  have k6 : L / 4294967296 < 4294967296 := by omega
  have k7 : ¬ (4294967296 * (X % 2621440000) + L / 4294967296 < 0) := by omega
  have k8 : X / 2621440000 < 4294967296 := by omega
  have d3 : ¬ (4294967296 ≤ R / 2621440000) := by omega
  have d1 : 0 ≤ R / 2621440000 := by omega
  have d3' : 0 ≤ R % 2621440000 := by omega
  have d4 : R % 2621440000 < 2621440000 := by omega
  have d7 : ¬ (4294967296 * (R % 2621440000) + U < 0) := by omega
  have d8 : R / 2621440000 < 4294967296 := by omega
  have d9 : X / 2621440000 * 4294967296 + R / 2621440000 < 18446744073709551616 := by omega
  refine wp_loop_rounds 1 ?_
  rw [rounds_succ]
  go_wp2_with fail
  refine wp_loop_rounds 1 ?_
  rw [rounds_succ]
  go_wp2_with fail
  go_ret2
  exact ⟨rfl, 0, (World.drewN_zero _).symm⟩
theorem wR (X l : Int) (h0 : 0 ≤ X) (h1 : X < 11258999068426240000) (l0 : 0 ≤ l) (l1 : l < 4294967296) :
    IntKind.u64.wrap (IntKind.u64.wrap (IntKind.u64.wrap (X * 4294967296) + l) - IntKind.u64.wrap (X / 2621440000 * 11258999068426240000)) = X % 2621440000 * 4294967296 + l := by
  simp only [IntKind.wrap_u64]
  rw [← Int.sub_emod]
  rw [Int.sub_emod, Int.emod_add_emod, ← Int.sub_emod]
  have e : X * 4294967296 + l - X / 2621440000 * 11258999068426240000 = X % 2621440000 * 4294967296 + l := by
    have := Int.emod_def X 2621440000
    rw [this]; omega
  rw [e, Int.emod_eq_of_lt]
  · have : 0 ≤ X % 2621440000 := by omega
    omega
  · have : X % 2621440000 < 2621440000 := by omega
    omega
theorem last (N Q S : Int) (h : N * 1125899906842624 = 11258999068426240000 * Q + S) (h0 : 0 ≤ S) (h1 : S < 11258999068426240000) : N / 10000 = Q ∧ S / 1125899906842624 = N % 10000 := by
  have e : S = 1125899906842624 * (N - 10000 * Q) := by omega
  have e1 : 0 ≤ N - 10000 * Q := by omega
  have e2 : N - 10000 * Q < 10000 := by omega
  have e3 : S / 1125899906842624 = N - 10000 * Q := by rw [e]; exact Int.mul_ediv_cancel_left _ (by decide)
  rw [e3]
  omega
theorem steps (a b X L U R S : Int) (hX : X = a * 1125899906842624 + b / 16384) (hL : L = b * 1125899906842624 % 18446744073709551616) (hU : U = L % 4294967296)
    (hR : R = X % 2621440000 * 4294967296 + L / 4294967296) (hS : S = R % 2621440000 * 4294967296 + U) :
    (a * 18446744073709551616 + b) * 1125899906842624 = 11258999068426240000 * (X / 2621440000 * 4294967296 + R / 2621440000) + S := by
  have f1 : b * 1125899906842624 = b / 16384 * 18446744073709551616 + L := by omega
  have f2 : (a * 18446744073709551616 + b) * 1125899906842624 = X * 18446744073709551616 + L := by rw [hX]; omega
  have f3 : L = 4294967296 * (L / 4294967296) + U := by omega
  have f4 : X = 2621440000 * (X / 2621440000) + X % 2621440000 := by omega
  have f5 : R = 2621440000 * (R / 2621440000) + R % 2621440000 := by omega
  clear hX hL hU f1
  generalize X / 2621440000 = q1 at *
  generalize X % 2621440000 = x at *
  generalize R / 2621440000 = q0 at *
  generalize R % 2621440000 = r at *
  generalize L / 4294967296 = l at *
  omega
def bits_Div64.f (a b y : Int) : Option (Int × Int) :=
  if (0 ≤ a ∧ a < 10000) ∧ Word b ∧ y = 10000 then some ((a * 18446744073709551616 + b) / 10000, (a * 18446744073709551616 + b) % 10000) else none
theorem bits_Div64.calls (a b y : Int) (r1 r2 : Int) (w : World) (h : bits_Div64.f a b y = some (r1, r2)) :
    Calls Tryd.prog 62 #[.int .u64 a, .int .u64 b, .int .u64 y] w fun e w' => e = .returned (.tuple #[.int .u64 r1, .int .u64 r2]) ∧ Drawn0 w w' := by
  unfold bits_Div64.f at h
  by_cases hc : (0 ≤ a ∧ a < 10000) ∧ Word b ∧ y = 10000
  case neg => rw [if_neg hc] at h; cases h
  rw [if_pos hc] at h
  injection h with h
  injection h with e1 e2
  subst e1 e2
  obtain ⟨⟨a0, a1⟩, ⟨b0, b1⟩, rfl⟩ := hc
  by_cases hz : a = 0
  · subst hz
    have := div0 b b0 b1 w
    rw [Int.zero_mul, Int.zero_add]
    exact this
  · have hO : bits .or .u64 (a * 1125899906842624) (b / 16384) = a * 1125899906842624 + b / 16384 := by
      obtain ⟨x, rfl⟩ := Int.eq_ofNat_of_zero_le a0
      obtain ⟨z, rfl⟩ := Int.eq_ofNat_of_zero_le b0
      rw [or_disjoint x z (by omega) (by omega)]
      omega
    have l0 : 0 ≤ b * 1125899906842624 % 18446744073709551616 := Int.emod_nonneg _ (by decide)
    have l1 : b * 1125899906842624 % 18446744073709551616 < 18446744073709551616 := Int.emod_lt_of_pos _ (by decide)
    have hU : bits .and .u64 (b * 1125899906842624 % 18446744073709551616) 4294967295 = b * 1125899906842624 % 18446744073709551616 % 4294967296 := by
      generalize b * 1125899906842624 % 18446744073709551616 = L at l0 l1
      obtain ⟨x, rfl⟩ := Int.eq_ofNat_of_zero_le l0
      rw [and_mask x (by omega)]
      omega
    generalize hL : b * 1125899906842624 % 18446744073709551616 = L at l0 l1 hU
    generalize hV : L % 4294967296 = U at hU
    generalize hX : a * 1125899906842624 + b / 16384 = X at hO
    have x0 : 0 ≤ X := by omega
    have x1 : X < 11258999068426240000 := by omega
    have u0 : 0 ≤ U := by omega
    have u1 : U < 4294967296 := by omega
    have R0 := wR X (L / 4294967296) x0 x1 (by omega) (by omega)
    generalize hR : X % 2621440000 * 4294967296 + L / 4294967296 = R at R0
    have r0 : 0 ≤ R := by omega
    have r1 : R < 11258999068426240000 := by omega
    have S0 := wR R U r0 r1 u0 u1
    generalize hS : R % 2621440000 * 4294967296 + U = S at S0
    have s0 : 0 ≤ S := by omega
    have s1 : S < 11258999068426240000 := by omega
    have hw : IntKind.u64.wrap (b * 1125899906842624) = L := by rw [IntKind.wrap_u64, hL]
    have st := steps a b X L U R S hX.symm hL.symm hV.symm hR.symm hS.symm
    obtain ⟨g1, g2⟩ := last _ _ S st s0 s1
    rw [g1, ← g2]
    exact div1 a b X L U R S (by omega) a1 b0 b1 hO hw hU (by decide) x0 x1 l0 l1 u0 u1 R0 r0 r1 S0 s0 s1 w
end Go.Proofs.YtbodlnoipkommaaDoor.Wl
namespace Go.Proofs.YtbodlnoipkommaaDoor.Q
open Go.Proofs.YtbodlnoipkommaaDoor.We Go.Proofs.YtbodlnoipkommaaDoor.Wj Go.Proofs.YtbodlnoipkommaaDoor.Wl
open Go.RowKit Go.Proofs.YtbodlnoipkommaaDoorW.PrintWords Go.Proofs.YtbodlnoipkommaaDoorW.PrintLast Go.Proofs.YtbodlnoipkommaaDoorW.PrintMore
attribute [local go_sem] max2_int min2_int max_two min_two max_three min_three max_four min_four
set_option linter.unusedVariables false
set_option linter.unusedSimpArgs false
mutual
def value_Mul.j0 : Nat → Int → Bool → Int → Int → ByteArray → Int → Int → ByteArray → Option (Int × Int × ByteArray × Int)
 | 0, _, _, _, _, _, _, _, _ => none
 | k + 1, x7, x25, x165000, x165001, x165002, x166000, x166001, x166002 => if x25 = true then (some (0, 0, (⟨#[]⟩ : ByteArray), x7)) else ((value_times.f x165001 x166001).bind fun bt169 => (if x165000 = x166000 then (if x165000 = 2 then ((vw_told.f bt169.1 bt169.2 2).bind fun bt172 => (some (bt172.1, bt172.2.1, bt172.2.2.1, bt172.2.2.2))) else ((vw_size.f bt169.1 bt169.2).bind fun bt180 => ((bits_Div64.f (Int.tmod bt180.1 10000) bt180.2.1 10000).bind fun bt183 => (if bt183.2 > 5000 then (value_Mul.j1 k bt180.2.2 true (wrap64 (IntKind.u64.wrap (Int.tdiv bt180.1 10000))) bt183.1) else (if bt183.2 = 5000 then (value_Mul.j1 k bt180.2.2 ((Int.tmod bt183.1 2) == 1) (wrap64 (IntKind.u64.wrap (Int.tdiv bt180.1 10000))) bt183.1) else (value_Mul.j1 k bt180.2.2 false (wrap64 (IntKind.u64.wrap (Int.tdiv bt180.1 10000))) bt183.1)))))) else ((vw_told.f bt169.1 bt169.2 3).bind fun bt176 => (some (bt176.1, bt176.2.1, bt176.2.2.1, bt176.2.2.2)))))
def value_Mul.j1 : Nat → Bool → Bool → Int → Int → Option (Int × Int × ByteArray × Int)
 | 0, _, _, _, _ => none
 | k + 1, x11, x79, x186000, x186001 => if x79 = true then ((value_of.f 1).bind fun bt186 => ((vw_plus.f x186000 x186001 bt186.1 bt186.2).bind fun bt188 => (value_Mul.j2 k x11 bt188.1 bt188.2))) else (value_Mul.j2 k x11 x186000 x186001)
def value_Mul.j2 : Nat → Bool → Int → Int → Option (Int × Int × ByteArray × Int)
 | 0, _, _, _ => none
 | k + 1, x11, x186000, x186001 => if x11 = true then ((vw_minus.f x186000 x186001).bind fun bt190 => ((vw_told.f bt190.1 bt190.2 3).bind fun bt192 => (some (bt192.1, bt192.2.1, bt192.2.2.1, bt192.2.2.2)))) else ((vw_told.f x186000 x186001 3).bind fun bt196 => (some (bt196.1, bt196.2.1, bt196.2.2.1, bt196.2.2.2)))
end
def value_Mul.f (k : Nat) (a0_0 : Int) (a0_1 : Int) (a0_2 : ByteArray) (a1_0 : Int) (a1_1 : Int) (a1_2 : ByteArray) : Option (Int × Int × ByteArray × Int) := (value_asked.f a0_0 a0_1 a0_2 a1_0 a1_1 a1_2).bind fun bt167 => (if bt167.2 = 0 then (value_Mul.j0 k bt167.2 bt167.1 a0_0 a0_1 a0_2 a1_0 a1_1 a1_2) else (value_Mul.j0 k bt167.2 true a0_0 a0_1 a0_2 a1_0 a1_1 a1_2))
set_option maxHeartbeats 8000000 in
set_option maxRecDepth 100000 in
theorem value_Mul.calls (k : Nat) (a0_0 : Int) (a0_1 : Int) (a0_2 : ByteArray) (a1_0 : Int) (a1_1 : Int) (a1_2 : ByteArray) (r1 : Int) (r2 : Int) (r3 : ByteArray) (r4 : Int) (w : World) (h : value_Mul.f k a0_0 a0_1 a0_2 a1_0 a1_1 a1_2 = some (r1, r2, r3, r4)) :
  Calls Tryd.prog 20 #[.agg #[.int .u8 a0_0, .int .i64 a0_1, .string a0_2], .agg #[.int .u8 a1_0, .int .i64 a1_1, .string a1_2]] w fun e w' => e = .returned (.tuple #[.agg #[.int .u8 r1, .int .i64 r2, .string r3], .int .i64 r4]) ∧ Below w.heap.size w w' := by
 have hu25 := Tryd.underlying25
 have hu49 := Tryd.underlying49
 have HB := Aside0.mk (Below.refl w.heap.size w)
 have H : ((value_asked.f a0_0 a0_1 a0_2 a1_0 a1_1 a1_2).bind fun bt167 => (if bt167.2 = 0 then (value_Mul.j0 k bt167.2 bt167.1 a0_0 a0_1 a0_2 a1_0 a1_1 a1_2) else (value_Mul.j0 k bt167.2 true a0_0 a0_1 a0_2 a1_0 a1_1 a1_2))) = some (r1, r2, r3, r4) := h
 clear h
 replace H := Option.bind_eq_some_iff.mp H
 obtain ⟨⟨t167, t168⟩, A30, H⟩ := H
 replace H : (if t168 = 0 then (value_Mul.j0 k t168 t167 a0_0 a0_1 a0_2 a1_0 a1_1 a1_2) else (value_Mul.j0 k t168 true a0_0 a0_1 a0_2 a1_0 a1_1 a1_2)) = some (r1, r2, r3, r4) := H
 have A3 := Aside0.mk A30
 clear A30
 have HC4 := Aside0.mk H
 clear H
 go_enter Tryd.func20, Tryd.ntmps20
 go_upto_region 2 with (first | ((with_reducible refine gate_dst (N := 2) rfl ?_); refine box_event ?hg (N := 2) ?hd (cs := #[.int .u8 a0_0, .int .i64 a0_1, .string a0_2]) (t := 25) ?hr ?_; (case hd => rfl); (case hg => rfl); (case hr => first | (go_simp; done) | (go_simp; rfl)); intro gb164 hg w5 hbox hb; have n0_ := Aside0.mk (below_step (bw HB.out) hb); have n1_ := Aside0.mk (hbox); have n2_ := Aside0.mk ((by rw [hg]; exact (below_size (bw HB.out)) : w.heap.size ≤ gb164)); have n3_ := Aside0.mk ((by rw [hg]; exact (below_size (bw HB.out)) : w.heap.size ≤ gb164)); clear HB; have HB := n0_; have BK164 := n1_; have GW164 := n2_; have GE164 := n3_; clear n0_ n1_ n2_ n3_; clear hb hbox hg) | ((with_reducible refine gate_dst (N := 3) rfl ?_); refine box_event ?hg (N := 3) ?hd (cs := #[.int .u8 a1_0, .int .i64 a1_1, .string a1_2]) (t := 25) ?hr ?_; (case hd => rfl); (case hg => rfl); (case hr => first | (go_simp; done) | (go_simp; rfl)); intro gb165 hg w6 hbox hb; have n0_ := Aside0.mk (blk_below (bk BK164.out) hb); have n1_ := Aside0.mk (below_step (by repeat (first | (with_reducible first | exact HB.out | apply below_alloc | apply pw_below_drewN | apply below_drew1 | refine below_set ?_ GE164.out) | exact HB.out)) hb); have n2_ := Aside0.mk (hbox); have n3_ := Aside0.mk ((by rw [hg]; exact (below_size (by repeat (first | (with_reducible first | exact HB.out | apply below_alloc | apply pw_below_drewN | apply below_drew1 | refine below_set ?_ GE164.out) | exact HB.out))) : w.heap.size ≤ gb165)); have n4_ := Aside0.mk ((by rw [hg]; exact (below_size (by repeat (first | (with_reducible first | exact HB.out | apply below_alloc | apply pw_below_drewN | apply below_drew1 | refine below_set ?_ GE164.out) | exact HB.out))) : w.heap.size ≤ gb165)); have n5_ := Aside0.mk ((by rw [hg]; exact Nat.ne_of_lt (blk_lt (g := gb164) (o := .cells #[.int .u8 a0_0, .int .i64 a0_1, .string a0_2] 25 (0, 0)) (bk BK164.out)) : gb164 ≠ gb165)); have n6_ := Aside0.mk ((by rw [hg]; exact Nat.ne_of_gt (blk_lt (g := gb164) (o := .cells #[.int .u8 a0_0, .int .i64 a0_1, .string a0_2] 25 (0, 0)) (bk BK164.out)) : gb165 ≠ gb164)); clear BK164; clear HB; have BK164 := n0_; have HB := n1_; have BK165 := n2_; have GW165 := n3_; have GE165 := n4_; have NB164_165 := n5_; have NB165_164 := n6_; clear n0_ n1_ n2_ n3_ n4_ n5_ n6_; clear hb hbox hg) | ((with_reducible refine gate_dst (N := 4) rfl ?_); refine box_event ?hg (N := 4) ?hd (cs := #[.int .u8 0, .int .i64 0, .string (⟨#[]⟩ : ByteArray)]) (t := 25) ?hr ?_; (case hd => rfl); (case hg => rfl); (case hr => first | (go_simp; done) | (go_simp; rfl)); intro gb166 hg w7 hbox hb; have n0_ := Aside0.mk (blk_below (bk BK164.out) hb); have n1_ := Aside0.mk (blk_below (bk BK165.out) hb); have n2_ := Aside0.mk (below_step (by repeat (first | (with_reducible first | exact HB.out | apply below_alloc | apply pw_below_drewN | apply below_drew1 | refine below_set ?_ (Aside0.out (by assumption))) | exact HB.out)) hb); have n3_ := Aside0.mk (hbox); have n4_ := Aside0.mk ((by rw [hg]; exact (below_size (by repeat (first | (with_reducible first | exact HB.out | apply below_alloc | apply pw_below_drewN | apply below_drew1 | refine below_set ?_ (Aside0.out (by assumption))) | exact HB.out))) : w.heap.size ≤ gb166)); have n5_ := Aside0.mk ((by rw [hg]; exact (below_size (by repeat (first | (with_reducible first | exact HB.out | apply below_alloc | apply pw_below_drewN | apply below_drew1 | refine below_set ?_ (Aside0.out (by assumption))) | exact HB.out))) : w.heap.size ≤ gb166)); have n6_ := Aside0.mk ((by rw [hg]; exact Nat.ne_of_lt (blk_lt (g := gb164) (o := .cells #[.int .u8 a0_0, .int .i64 a0_1, .string a0_2] 25 (0, 0)) (bk BK164.out)) : gb164 ≠ gb166)); have n7_ := Aside0.mk ((by rw [hg]; exact Nat.ne_of_gt (blk_lt (g := gb164) (o := .cells #[.int .u8 a0_0, .int .i64 a0_1, .string a0_2] 25 (0, 0)) (bk BK164.out)) : gb166 ≠ gb164)); have n8_ := Aside0.mk ((by rw [hg]; exact Nat.ne_of_lt (blk_lt (g := gb165) (o := .cells #[.int .u8 a1_0, .int .i64 a1_1, .string a1_2] 25 (0, 0)) (bk BK165.out)) : gb165 ≠ gb166)); have n9_ := Aside0.mk ((by rw [hg]; exact Nat.ne_of_gt (blk_lt (g := gb165) (o := .cells #[.int .u8 a1_0, .int .i64 a1_1, .string a1_2] 25 (0, 0)) (bk BK165.out)) : gb166 ≠ gb165)); clear BK164; clear BK165; clear HB; have BK164 := n0_; have BK165 := n1_; have HB := n2_; have BK166 := n3_; have GW166 := n4_; have GE166 := n5_; have NB164_166 := n6_; have NB166_164 := n7_; have NB165_166 := n8_; have NB166_165 := n9_; clear n0_ n1_ n2_ n3_ n4_ n5_ n6_ n7_ n8_ n9_; clear hb hbox hg; have hnb8 := NB164_165.out; have hnc8 := NB165_164.out; have hnb9 := NB164_166.out; have hnc9 := NB166_164.out; have hcz10_0 : w7.cell? ⟨gb164, 0, none⟩ = some (.int .u8 a0_0) := (blk_cell BK164.out 0).trans rfl; have hcz10_1 : w7.cell? ⟨gb164, 1, none⟩ = some (.int .i64 a0_1) := (blk_cell BK164.out 1).trans rfl; have hcz10_2 : w7.cell? ⟨gb164, 2, none⟩ = some (.string a0_2) := (blk_cell BK164.out 2).trans rfl; have hfz10_0 := blk_frozen BK164.out 0; have hfz10_1 := blk_frozen BK164.out 1; have hfz10_2 := blk_frozen BK164.out 2; have hnb11 := NB165_166.out; have hnc11 := NB166_165.out; have hcz12_0 : w7.cell? ⟨gb165, 0, none⟩ = some (.int .u8 a1_0) := (blk_cell BK165.out 0).trans rfl; have hcz12_1 : w7.cell? ⟨gb165, 1, none⟩ = some (.int .i64 a1_1) := (blk_cell BK165.out 1).trans rfl; have hcz12_2 : w7.cell? ⟨gb165, 2, none⟩ = some (.string a1_2) := (blk_cell BK165.out 2).trans rfl; have hfz12_0 := blk_frozen BK165.out 0; have hfz12_1 := blk_frozen BK165.out 1; have hfz12_2 := blk_frozen BK165.out 2) | ((with_reducible refine gate_callee (f := 58) rfl ?_); refine goesL_ (some 18) rfl rfl Tryd.func58 (by kernel_rfl) rfl #[.agg #[.int .u8 a0_0, .int .i64 a0_1, .string a0_2], .agg #[.int .u8 a1_0, .int .i64 a1_1, .string a1_2]] rfl (by (try simp only [List.map_toArray, List.map_cons, List.map_nil]); first | done | rfl | (simp only [List.length_drop, List.length_take]; rfl)) ?_; (with_reducible refine (value_asked.calls a0_0 a0_1 a0_2 a1_0 a1_1 a1_2 t167 t168 _ A3.out).mono ?_); rintro e w13 ⟨rfl, hb⟩; refine ⟨_, rfl, ?_⟩; have n0_ := Aside0.mk (blk_below (bk BK164.out) hb); have n1_ := Aside0.mk (blk_below (bk BK165.out) hb); have n2_ := Aside0.mk (blk_below (bk BK166.out) hb); have n3_ := Aside0.mk (below_step (by repeat (first | (with_reducible first | exact HB.out | apply below_alloc | apply pw_below_drewN | apply below_drew1 | refine below_set ?_ (Aside0.out (by assumption))) | exact HB.out)) hb); clear BK164; clear BK165; clear BK166; clear HB; have BK164 := n0_; have BK165 := n1_; have BK166 := n2_; have HB := n3_; clear n0_ n1_ n2_ n3_; (try clear hb); (try clear hb2); (try clear hk); (try clear hi)))
 (try simp only [Act.put, List.setIfInBounds_toArray, List.set_cons_zero, List.set_cons_succ])
 go_cut [25] (fun v25 wc => ∃ (kq : Nat) (x25_3 : Bool), v25 = .bool x25_3 ∧ Aside0 (value_Mul.j0 kq t168 x25_3 a0_0 a0_1 a0_2 a1_0 a1_1 a1_2 = some (r1, r2, r3, r4)) ∧ Aside0 (kq ≤ k) ∧ Aside0 (wc.heap[gb164]? = some (.cells #[.int .u8 a0_0, .int .i64 a0_1, .string a0_2] 25 (0, 0))) ∧ Aside0 (wc.heap[gb165]? = some (.cells #[.int .u8 a1_0, .int .i64 a1_1, .string a1_2] 25 (0, 0))) ∧ Aside0 (wc.heap[gb166]? = some (.cells #[.int .u8 0, .int .i64 0, .string (⟨#[]⟩ : ByteArray)] 25 (0, 0))) ∧ Aside0 (Below w.heap.size w wc))
 case first =>
  have H := HC4.out
  clear HC4
  by_cases c14 : t168 = 0
  ·rw [if_pos c14] at H
   have c14b0 : (t168 == 0) = true := beq_iff_eq.mpr c14
   have c14b1 : (t168 != 0) = false := bne_eq_false_iff_eq.mpr c14
   clear c14
   (first | rw [c14b0] | (simp only [i64_w, i32_w]; rw [c14b0]) | skip)
   have H' := Aside0.mk H
   clear H
   go_wp2
   go_meet
   case rel => exact ⟨_, (t167), (by first | rfl | (simp; done) | (simp [*]; done)), H', ⟨by first | omega | exact Nat.le_refl _⟩, ⟨bk BK164.out⟩, ⟨bk BK165.out⟩, ⟨bk BK166.out⟩, ⟨by repeat (first | (with_reducible first | exact HB.out | apply below_alloc | apply pw_below_drewN | apply below_drew1 | refine below_set ?_ (Aside0.out (by assumption))) | exact HB.out)⟩⟩
  ·rw [if_neg c14] at H
   have c14b0 : (t168 == 0) = false := beq_eq_false_iff_ne.mpr c14
   have c14b1 : (t168 != 0) = true := bne_iff_ne.mpr c14
   (first | rw [c14b0] | (simp only [i64_w, i32_w]; rw [c14b0]) | skip)
   have H' := Aside0.mk H
   clear H
   go_wp2
   go_meet
   case rel => exact ⟨_, (true), (by first | rfl | (simp; done) | (simp [*]; done)), H', ⟨by first | omega | exact Nat.le_refl _⟩, ⟨bk BK164.out⟩, ⟨bk BK165.out⟩, ⟨bk BK166.out⟩, ⟨by repeat (first | (with_reducible first | exact HB.out | apply below_alloc | apply pw_below_drewN | apply below_drew1 | refine below_set ?_ (Aside0.out (by assumption))) | exact HB.out)⟩⟩
 case rest =>
  clear HC4
  try clear c1
  try clear c2
  try clear p2
  try clear c5
  try clear c8
  try clear c9
  try clear c11
  try clear c14
  try clear c14b0
  try clear c14b1
  try clear hcz10_0
  try clear hcz10_1
  try clear hcz10_2
  try clear hcz12_0
  try clear hcz12_1
  try clear hcz12_2
  try clear hfz10_0
  try clear hfz10_1
  try clear hfz10_2
  try clear hfz12_0
  try clear hfz12_1
  try clear hfz12_2
  obtain ⟨kq, x25_3, rfl, HA, HJ3, BK164, BK165, BK166, HB⟩ := hcut
  cases kq with
  | zero => exact absurd HA.out (by simp [value_Mul.j0])
  | succ kj3 =>
   have H := HA.out
   clear HA
   simp only [value_Mul.j0] at H
   by_cases c15 : x25_3 = true
   ·subst c15
    have H1 : (some (0, 0, (⟨#[]⟩ : ByteArray), t168)) = some (r1, r2, r3, r4) := by rw [if_pos rfl] at H; exact H
    clear H
    have H := H1
    clear H1
    simp only [Option.some.injEq, Prod.mk.injEq] at H
    obtain ⟨rfl, rfl, rfl, rfl⟩ := H
    have hnb16 := NB166_164.out
    have hnc16 := NB164_166.out
    have hnb17 := NB166_165.out
    have hnc17 := NB165_166.out
    have hcz18_0 : wc.cell? ⟨gb166, 0, none⟩ = some (.int .u8 0) := (blk_cell BK166.out 0).trans rfl
    have hcz18_1 : wc.cell? ⟨gb166, 1, none⟩ = some (.int .i64 0) := (blk_cell BK166.out 1).trans rfl
    have hcz18_2 : wc.cell? ⟨gb166, 2, none⟩ = some (.string (⟨#[]⟩ : ByteArray)) := (blk_cell BK166.out 2).trans rfl
    have hfz18_0 := blk_frozen BK166.out 0
    have hfz18_1 := blk_frozen BK166.out 1
    have hfz18_2 := blk_frozen BK166.out 2
    go_wp2
    refine bodyPost_ret (results_ct rfl _ _ gb166 25 #[.int .u8 0, .int .i64 0, .string (⟨#[]⟩ : ByteArray)] (0, 0) _ rfl (by (with_reducible repeat first | apply blk_drewN | apply blk_drew | apply blk_alloc); refine blk_put (cs := #[.int .u8 0, .int .i64 0, .string (⟨#[]⟩ : ByteArray)]) ?_ 2 _ rfl; (with_reducible repeat first | apply blk_drewN | apply blk_drew | apply blk_alloc); refine blk_put (cs := #[.int .u8 0, .int .i64 0, .string (⟨#[]⟩ : ByteArray)]) ?_ 1 _ rfl; (with_reducible repeat first | apply blk_drewN | apply blk_drew | apply blk_alloc); refine blk_put (cs := #[.int .u8 0, .int .i64 0, .string (⟨#[]⟩ : ByteArray)]) ?_ 0 _ rfl; (with_reducible repeat first | apply blk_drewN | apply blk_drew | apply blk_alloc); exact BK166.out) Tryd.underlying25 rfl (by kernel_rfl)) rfl ?_
    exact ⟨by first | rfl | (simp [errW_none, errW_some] <;> rfl) | (simp [*, errW_none, errW_some] <;> rfl), by repeat (first | (with_reducible first | exact HB.out | apply below_alloc | apply pw_below_drewN | apply below_drew1 | refine below_set ?_ (Aside0.out (by assumption))) | exact HB.out)⟩
   ·replace c15 := Bool.eq_false_iff.mpr c15
    subst c15
    have H1 : ((value_times.f a0_1 a1_1).bind fun bt169 => (if a0_0 = a1_0 then (if a0_0 = 2 then ((vw_told.f bt169.1 bt169.2 2).bind fun bt172 => (some (bt172.1, bt172.2.1, bt172.2.2.1, bt172.2.2.2))) else ((vw_size.f bt169.1 bt169.2).bind fun bt180 => ((bits_Div64.f (Int.tmod bt180.1 10000) bt180.2.1 10000).bind fun bt183 => (if bt183.2 > 5000 then (value_Mul.j1 kj3 bt180.2.2 true (wrap64 (IntKind.u64.wrap (Int.tdiv bt180.1 10000))) bt183.1) else (if bt183.2 = 5000 then (value_Mul.j1 kj3 bt180.2.2 ((Int.tmod bt183.1 2) == 1) (wrap64 (IntKind.u64.wrap (Int.tdiv bt180.1 10000))) bt183.1) else (value_Mul.j1 kj3 bt180.2.2 false (wrap64 (IntKind.u64.wrap (Int.tdiv bt180.1 10000))) bt183.1)))))) else ((vw_told.f bt169.1 bt169.2 3).bind fun bt176 => (some (bt176.1, bt176.2.1, bt176.2.2.1, bt176.2.2.2))))) = some (r1, r2, r3, r4) := by rw [if_neg (show ¬ (false = true) by decide)] at H; exact H
    clear H
    have H := H1
    clear H1
    replace H := Option.bind_eq_some_iff.mp H
    obtain ⟨⟨t169, t170⟩, A190, H⟩ := H
    replace H : (if a0_0 = a1_0 then (if a0_0 = 2 then ((vw_told.f t169 t170 2).bind fun bt172 => (some (bt172.1, bt172.2.1, bt172.2.2.1, bt172.2.2.2))) else ((vw_size.f t169 t170).bind fun bt180 => ((bits_Div64.f (Int.tmod bt180.1 10000) bt180.2.1 10000).bind fun bt183 => (if bt183.2 > 5000 then (value_Mul.j1 kj3 bt180.2.2 true (wrap64 (IntKind.u64.wrap (Int.tdiv bt180.1 10000))) bt183.1) else (if bt183.2 = 5000 then (value_Mul.j1 kj3 bt180.2.2 ((Int.tmod bt183.1 2) == 1) (wrap64 (IntKind.u64.wrap (Int.tdiv bt180.1 10000))) bt183.1) else (value_Mul.j1 kj3 bt180.2.2 false (wrap64 (IntKind.u64.wrap (Int.tdiv bt180.1 10000))) bt183.1)))))) else ((vw_told.f t169 t170 3).bind fun bt176 => (some (bt176.1, bt176.2.1, bt176.2.2.1, bt176.2.2.2)))) = some (r1, r2, r3, r4) := H
    have A19 := Aside0.mk A190
    clear A190
    by_cases c20 : a0_0 = a1_0
    ·rw [if_pos c20] at H
     have c20b0 : (a0_0 == a1_0) = true := beq_iff_eq.mpr c20
     have c20b1 : (a0_0 != a1_0) = false := bne_eq_false_iff_eq.mpr c20
     clear c20
     by_cases c21 : a0_0 = 2
     ·rw [if_pos c21] at H
      have c21b0 : (a0_0 == 2) = true := beq_iff_eq.mpr c21
      have c21b1 : (a0_0 != 2) = false := bne_eq_false_iff_eq.mpr c21
      clear c21
      replace H := Option.bind_eq_some_iff.mp H
      obtain ⟨⟨t172, t173, t174, t175⟩, A220, H⟩ := H
      replace H : (some (t172, t173, t174, t175)) = some (r1, r2, r3, r4) := H
      have A22 := Aside0.mk A220
      clear A220
      simp only [Option.some.injEq, Prod.mk.injEq] at H
      obtain ⟨rfl, rfl, rfl, rfl⟩ := H
      have hnb23 := NB164_165.out
      have hnc23 := NB165_164.out
      have hnb24 := NB164_166.out
      have hnc24 := NB166_164.out
      have hcz25_0 : wc.cell? ⟨gb164, 0, none⟩ = some (.int .u8 a0_0) := (blk_cell BK164.out 0).trans rfl
      have hcz25_1 : wc.cell? ⟨gb164, 1, none⟩ = some (.int .i64 a0_1) := (blk_cell BK164.out 1).trans rfl
      have hcz25_2 : wc.cell? ⟨gb164, 2, none⟩ = some (.string a0_2) := (blk_cell BK164.out 2).trans rfl
      have hfz25_0 := blk_frozen BK164.out 0
      have hfz25_1 := blk_frozen BK164.out 1
      have hfz25_2 := blk_frozen BK164.out 2
      have hnb26 := NB165_166.out
      have hnc26 := NB166_165.out
      have hcz27_0 : wc.cell? ⟨gb165, 0, none⟩ = some (.int .u8 a1_0) := (blk_cell BK165.out 0).trans rfl
      have hcz27_1 : wc.cell? ⟨gb165, 1, none⟩ = some (.int .i64 a1_1) := (blk_cell BK165.out 1).trans rfl
      have hcz27_2 : wc.cell? ⟨gb165, 2, none⟩ = some (.string a1_2) := (blk_cell BK165.out 2).trans rfl
      have hfz27_0 := blk_frozen BK165.out 0
      have hfz27_1 := blk_frozen BK165.out 1
      have hfz27_2 := blk_frozen BK165.out 2
      go_wp2_with (first | ((with_reducible refine gate_callee (f := 59) rfl ?_); refine goesL_ (some 32) rfl rfl Tryd.func59 (by kernel_rfl) rfl #[.int .i64 a0_1, .int .i64 a1_1] rfl (by (try simp only [List.map_toArray, List.map_cons, List.map_nil]); first | done | rfl | (simp only [List.length_drop, List.length_take]; rfl)) ?_; (with_reducible refine (value_times.calls a0_1 a1_1 t169 t170 _ A19.out).mono ?_); rintro e w28 ⟨rfl, hb⟩; refine ⟨_, rfl, ?_⟩; have n0_ := Aside0.mk (blk_below (bk BK164.out) hb); have n1_ := Aside0.mk (blk_below (bk BK165.out) hb); have n2_ := Aside0.mk (blk_below (bk BK166.out) hb); have n3_ := Aside0.mk (below_step (by repeat (first | (with_reducible first | exact HB.out | apply below_alloc | apply pw_below_drewN | apply below_drew1 | refine below_set ?_ (Aside0.out (by assumption))) | exact HB.out)) hb); clear BK164; clear BK165; clear BK166; clear HB; have BK164 := n0_; have BK165 := n1_; have BK166 := n2_; have HB := n3_; clear n0_ n1_ n2_ n3_; (try clear hb); (try clear hb2); (try clear hk); (try clear hi)) | ((with_reducible refine gate_dst (N := 8) rfl ?_); refine box_event ?hg (N := 8) ?hd (cs := #[.int .i64 0, .int .u64 0]) (t := 49) ?hr ?_; (case hd => rfl); (case hg => rfl); (case hr => first | (go_simp; done) | (go_simp; rfl)); intro gb171 hg w29 hbox hb; have n0_ := Aside0.mk (blk_below (bk BK164.out) hb); have n1_ := Aside0.mk (blk_below (bk BK165.out) hb); have n2_ := Aside0.mk (blk_below (bk BK166.out) hb); have n3_ := Aside0.mk (below_step (by repeat (first | (with_reducible first | exact HB.out | apply below_alloc | apply pw_below_drewN | apply below_drew1 | refine below_set ?_ (Aside0.out (by assumption))) | exact HB.out)) hb); have n4_ := Aside0.mk (hbox); have n5_ := Aside0.mk ((by rw [hg]; exact (below_size (by repeat (first | (with_reducible first | exact HB.out | apply below_alloc | apply pw_below_drewN | apply below_drew1 | refine below_set ?_ (Aside0.out (by assumption))) | exact HB.out))) : w.heap.size ≤ gb171)); have n6_ := Aside0.mk ((by rw [hg]; exact (below_size (by repeat (first | (with_reducible first | exact HB.out | apply below_alloc | apply pw_below_drewN | apply below_drew1 | refine below_set ?_ (Aside0.out (by assumption))) | exact HB.out))) : w.heap.size ≤ gb171)); have n7_ := Aside0.mk ((by rw [hg]; exact Nat.ne_of_lt (blk_lt (g := gb164) (o := .cells #[.int .u8 a0_0, .int .i64 a0_1, .string a0_2] 25 (0, 0)) (bk BK164.out)) : gb164 ≠ gb171)); have n8_ := Aside0.mk ((by rw [hg]; exact Nat.ne_of_gt (blk_lt (g := gb164) (o := .cells #[.int .u8 a0_0, .int .i64 a0_1, .string a0_2] 25 (0, 0)) (bk BK164.out)) : gb171 ≠ gb164)); have n9_ := Aside0.mk ((by rw [hg]; exact Nat.ne_of_lt (blk_lt (g := gb165) (o := .cells #[.int .u8 a1_0, .int .i64 a1_1, .string a1_2] 25 (0, 0)) (bk BK165.out)) : gb165 ≠ gb171)); have n10_ := Aside0.mk ((by rw [hg]; exact Nat.ne_of_gt (blk_lt (g := gb165) (o := .cells #[.int .u8 a1_0, .int .i64 a1_1, .string a1_2] 25 (0, 0)) (bk BK165.out)) : gb171 ≠ gb165)); have n11_ := Aside0.mk ((by rw [hg]; exact Nat.ne_of_lt (blk_lt (g := gb166) (o := .cells #[.int .u8 0, .int .i64 0, .string (⟨#[]⟩ : ByteArray)] 25 (0, 0)) (bk BK166.out)) : gb166 ≠ gb171)); have n12_ := Aside0.mk ((by rw [hg]; exact Nat.ne_of_gt (blk_lt (g := gb166) (o := .cells #[.int .u8 0, .int .i64 0, .string (⟨#[]⟩ : ByteArray)] 25 (0, 0)) (bk BK166.out)) : gb171 ≠ gb166)); clear BK164; clear BK165; clear BK166; clear HB; have BK164 := n0_; have BK165 := n1_; have BK166 := n2_; have HB := n3_; have BK171 := n4_; have GW171 := n5_; have GE171 := n6_; have NB164_171 := n7_; have NB171_164 := n8_; have NB165_171 := n9_; have NB171_165 := n10_; have NB166_171 := n11_; have NB171_166 := n12_; clear n0_ n1_ n2_ n3_ n4_ n5_ n6_ n7_ n8_ n9_ n10_ n11_ n12_; clear hb hbox hg; have hnb30 := NB171_164.out; have hnc30 := NB164_171.out; have hnb31 := NB171_165.out; have hnc31 := NB165_171.out; have hnb32 := NB171_166.out; have hnc32 := NB166_171.out; have hcz33_0 : w29.cell? ⟨gb171, 0, none⟩ = some (.int .i64 0) := (blk_cell BK171.out 0).trans rfl; have hcz33_1 : w29.cell? ⟨gb171, 1, none⟩ = some (.int .u64 0) := (blk_cell BK171.out 1).trans rfl; have hfz33_0 := blk_frozen BK171.out 0; have hfz33_1 := blk_frozen BK171.out 1; have hcz34_0 : w29.cell? ⟨gb164, 0, none⟩ = some (.int .u8 a0_0) := (blk_cell BK164.out 0).trans rfl; have hcz34_1 : w29.cell? ⟨gb164, 1, none⟩ = some (.int .i64 a0_1) := (blk_cell BK164.out 1).trans rfl; have hcz34_2 : w29.cell? ⟨gb164, 2, none⟩ = some (.string a0_2) := (blk_cell BK164.out 2).trans rfl; have hfz34_0 := blk_frozen BK164.out 0; have hfz34_1 := blk_frozen BK164.out 1; have hfz34_2 := blk_frozen BK164.out 2; have hcz35_0 : w29.cell? ⟨gb165, 0, none⟩ = some (.int .u8 a1_0) := (blk_cell BK165.out 0).trans rfl; have hcz35_1 : w29.cell? ⟨gb165, 1, none⟩ = some (.int .i64 a1_1) := (blk_cell BK165.out 1).trans rfl; have hcz35_2 : w29.cell? ⟨gb165, 2, none⟩ = some (.string a1_2) := (blk_cell BK165.out 2).trans rfl; have hfz35_0 := blk_frozen BK165.out 0; have hfz35_1 := blk_frozen BK165.out 1; have hfz35_2 := blk_frozen BK165.out 2) | ((with_reducible refine gate_callee (f := 60) rfl ?_); refine goesL_ (some 48) rfl rfl Tryd.func60 (by kernel_rfl) rfl #[.agg #[.int .i64 t169, .int .u64 t170], .int .u8 2] rfl (by (try simp only [List.map_toArray, List.map_cons, List.map_nil]); first | done | rfl | (simp only [List.length_drop, List.length_take]; rfl)) ?_; (with_reducible refine (vw_told.calls t169 t170 2 t172 t173 t174 t175 _ A22.out).mono ?_); rintro e w36 ⟨rfl, hb⟩; refine ⟨_, rfl, ?_⟩; have n0_ := Aside0.mk (blk_below (g := gb164) (o := .cells #[.int .u8 a0_0, .int .i64 a0_1, .string a0_2] 25 (0, 0)) (by (with_reducible repeat (first | refine blk_drewN ?_ _ | refine blk_drew ?_ | refine blk_alloc ?_ _ | refine blk_far ?_ NB164_171.out _)); exact BK164.out) hb); have n1_ := Aside0.mk (blk_below (g := gb165) (o := .cells #[.int .u8 a1_0, .int .i64 a1_1, .string a1_2] 25 (0, 0)) (by (with_reducible repeat (first | refine blk_drewN ?_ _ | refine blk_drew ?_ | refine blk_alloc ?_ _ | refine blk_far ?_ NB165_171.out _)); exact BK165.out) hb); have n2_ := Aside0.mk (blk_below (g := gb166) (o := .cells #[.int .u8 0, .int .i64 0, .string (⟨#[]⟩ : ByteArray)] 25 (0, 0)) (by (with_reducible repeat (first | refine blk_drewN ?_ _ | refine blk_drew ?_ | refine blk_alloc ?_ _ | refine blk_far ?_ NB166_171.out _)); exact BK166.out) hb); have n3_ := Aside0.mk (blk_below (g := gb171) (o := .cells #[.int .i64 t169, .int .u64 t170] 49 (0, 0)) (by (with_reducible repeat first | apply blk_drewN | apply blk_drew | apply blk_alloc); refine blk_put (cs := #[.int .i64 t169, .int .u64 0]) ?_ 1 _ rfl; refine blk_put (cs := #[.int .i64 0, .int .u64 0]) ?_ 0 _ rfl; (with_reducible repeat first | apply blk_drewN | apply blk_drew | apply blk_alloc); exact BK171.out) hb); have n4_ := Aside0.mk (below_step (by repeat (first | (with_reducible first | exact HB.out | apply below_alloc | apply pw_below_drewN | apply below_drew1 | refine below_set ?_ (Aside0.out (by assumption))) | exact HB.out)) hb); clear BK164; clear BK165; clear BK166; clear BK171; clear HB; have BK164 := n0_; have BK165 := n1_; have BK166 := n2_; have BK171 := n3_; have HB := n4_; clear n0_ n1_ n2_ n3_ n4_; (try clear hb); (try clear hb2); (try clear hk); (try clear hi); have hcz37_0 : w36.cell? ⟨gb166, 0, none⟩ = some (.int .u8 0) := (blk_cell BK166.out 0).trans rfl; have hcz37_1 : w36.cell? ⟨gb166, 1, none⟩ = some (.int .i64 0) := (blk_cell BK166.out 1).trans rfl; have hcz37_2 : w36.cell? ⟨gb166, 2, none⟩ = some (.string (⟨#[]⟩ : ByteArray)) := (blk_cell BK166.out 2).trans rfl; have hfz37_0 := blk_frozen BK166.out 0; have hfz37_1 := blk_frozen BK166.out 1; have hfz37_2 := blk_frozen BK166.out 2))
      refine bodyPost_ret (results_ct rfl _ _ gb166 25 #[.int .u8 t172, .int .i64 t173, .string t174] (0, 0) _ rfl (by (with_reducible repeat first | apply blk_drewN | apply blk_drew | apply blk_alloc); refine blk_put (cs := #[.int .u8 t172, .int .i64 t173, .string (⟨#[]⟩ : ByteArray)]) ?_ 2 _ rfl; (with_reducible repeat first | apply blk_drewN | apply blk_drew | apply blk_alloc); refine blk_put (cs := #[.int .u8 t172, .int .i64 0, .string (⟨#[]⟩ : ByteArray)]) ?_ 1 _ rfl; (with_reducible repeat first | apply blk_drewN | apply blk_drew | apply blk_alloc); refine blk_put (cs := #[.int .u8 0, .int .i64 0, .string (⟨#[]⟩ : ByteArray)]) ?_ 0 _ rfl; (with_reducible repeat first | apply blk_drewN | apply blk_drew | apply blk_alloc); exact BK166.out) Tryd.underlying25 rfl (by kernel_rfl)) rfl ?_
      exact ⟨by first | rfl | (simp [errW_none, errW_some] <;> rfl) | (simp [*, errW_none, errW_some] <;> rfl), by repeat (first | (with_reducible first | exact HB.out | apply below_alloc | apply pw_below_drewN | apply below_drew1 | refine below_set ?_ (Aside0.out (by assumption))) | exact HB.out)⟩
     ·rw [if_neg c21] at H
      have c21b0 : (a0_0 == 2) = false := beq_eq_false_iff_ne.mpr c21
      have c21b1 : (a0_0 != 2) = true := bne_iff_ne.mpr c21
      replace H := Option.bind_eq_some_iff.mp H
      obtain ⟨⟨t180, t181, t182⟩, A380, H⟩ := H
      replace H : ((bits_Div64.f (Int.tmod t180 10000) t181 10000).bind fun bt183 => (if bt183.2 > 5000 then (value_Mul.j1 kj3 t182 true (wrap64 (IntKind.u64.wrap (Int.tdiv t180 10000))) bt183.1) else (if bt183.2 = 5000 then (value_Mul.j1 kj3 t182 ((Int.tmod bt183.1 2) == 1) (wrap64 (IntKind.u64.wrap (Int.tdiv t180 10000))) bt183.1) else (value_Mul.j1 kj3 t182 false (wrap64 (IntKind.u64.wrap (Int.tdiv t180 10000))) bt183.1)))) = some (r1, r2, r3, r4) := H
      have A38 := Aside0.mk A380
      clear A380
      replace H := Option.bind_eq_some_iff.mp H
      obtain ⟨⟨t183, t184⟩, A390, H⟩ := H
      replace H : (if t184 > 5000 then (value_Mul.j1 kj3 t182 true (wrap64 (IntKind.u64.wrap (Int.tdiv t180 10000))) t183) else (if t184 = 5000 then (value_Mul.j1 kj3 t182 ((Int.tmod t183 2) == 1) (wrap64 (IntKind.u64.wrap (Int.tdiv t180 10000))) t183) else (value_Mul.j1 kj3 t182 false (wrap64 (IntKind.u64.wrap (Int.tdiv t180 10000))) t183))) = some (r1, r2, r3, r4) := H
      have A39 := Aside0.mk A390
      clear A390
      have HC40 := Aside0.mk H
      clear H
      have hnb41 := NB164_165.out
      have hnc41 := NB165_164.out
      have hnb42 := NB164_166.out
      have hnc42 := NB166_164.out
      have hcz43_0 : wc.cell? ⟨gb164, 0, none⟩ = some (.int .u8 a0_0) := (blk_cell BK164.out 0).trans rfl
      have hcz43_1 : wc.cell? ⟨gb164, 1, none⟩ = some (.int .i64 a0_1) := (blk_cell BK164.out 1).trans rfl
      have hcz43_2 : wc.cell? ⟨gb164, 2, none⟩ = some (.string a0_2) := (blk_cell BK164.out 2).trans rfl
      have hfz43_0 := blk_frozen BK164.out 0
      have hfz43_1 := blk_frozen BK164.out 1
      have hfz43_2 := blk_frozen BK164.out 2
      have hnb44 := NB165_166.out
      have hnc44 := NB166_165.out
      have hcz45_0 : wc.cell? ⟨gb165, 0, none⟩ = some (.int .u8 a1_0) := (blk_cell BK165.out 0).trans rfl
      have hcz45_1 : wc.cell? ⟨gb165, 1, none⟩ = some (.int .i64 a1_1) := (blk_cell BK165.out 1).trans rfl
      have hcz45_2 : wc.cell? ⟨gb165, 2, none⟩ = some (.string a1_2) := (blk_cell BK165.out 2).trans rfl
      have hfz45_0 := blk_frozen BK165.out 0
      have hfz45_1 := blk_frozen BK165.out 1
      have hfz45_2 := blk_frozen BK165.out 2
      go_upto_region 12 with (first | ((with_reducible refine gate_callee (f := 59) rfl ?_); refine goesL_ (some 32) rfl rfl Tryd.func59 (by kernel_rfl) rfl #[.int .i64 a0_1, .int .i64 a1_1] rfl (by (try simp only [List.map_toArray, List.map_cons, List.map_nil]); first | done | rfl | (simp only [List.length_drop, List.length_take]; rfl)) ?_; (with_reducible refine (value_times.calls a0_1 a1_1 t169 t170 _ A19.out).mono ?_); rintro e w46 ⟨rfl, hb⟩; refine ⟨_, rfl, ?_⟩; have n0_ := Aside0.mk (blk_below (bk BK164.out) hb); have n1_ := Aside0.mk (blk_below (bk BK165.out) hb); have n2_ := Aside0.mk (blk_below (bk BK166.out) hb); have n3_ := Aside0.mk (below_step (by repeat (first | (with_reducible first | exact HB.out | apply below_alloc | apply pw_below_drewN | apply below_drew1 | refine below_set ?_ (Aside0.out (by assumption))) | exact HB.out)) hb); clear BK164; clear BK165; clear BK166; clear HB; have BK164 := n0_; have BK165 := n1_; have BK166 := n2_; have HB := n3_; clear n0_ n1_ n2_ n3_; (try clear hb); (try clear hb2); (try clear hk); (try clear hi)) | ((with_reducible refine gate_dst (N := 8) rfl ?_); refine box_event ?hg (N := 8) ?hd (cs := #[.int .i64 0, .int .u64 0]) (t := 49) ?hr ?_; (case hd => rfl); (case hg => rfl); (case hr => first | (go_simp; done) | (go_simp; rfl)); intro gb171 hg w47 hbox hb; have n0_ := Aside0.mk (blk_below (bk BK164.out) hb); have n1_ := Aside0.mk (blk_below (bk BK165.out) hb); have n2_ := Aside0.mk (blk_below (bk BK166.out) hb); have n3_ := Aside0.mk (below_step (by repeat (first | (with_reducible first | exact HB.out | apply below_alloc | apply pw_below_drewN | apply below_drew1 | refine below_set ?_ (Aside0.out (by assumption))) | exact HB.out)) hb); have n4_ := Aside0.mk (hbox); have n5_ := Aside0.mk ((by rw [hg]; exact (below_size (by repeat (first | (with_reducible first | exact HB.out | apply below_alloc | apply pw_below_drewN | apply below_drew1 | refine below_set ?_ (Aside0.out (by assumption))) | exact HB.out))) : w.heap.size ≤ gb171)); have n6_ := Aside0.mk ((by rw [hg]; exact (below_size (by repeat (first | (with_reducible first | exact HB.out | apply below_alloc | apply pw_below_drewN | apply below_drew1 | refine below_set ?_ (Aside0.out (by assumption))) | exact HB.out))) : w.heap.size ≤ gb171)); have n7_ := Aside0.mk ((by rw [hg]; exact Nat.ne_of_lt (blk_lt (g := gb164) (o := .cells #[.int .u8 a0_0, .int .i64 a0_1, .string a0_2] 25 (0, 0)) (bk BK164.out)) : gb164 ≠ gb171)); have n8_ := Aside0.mk ((by rw [hg]; exact Nat.ne_of_gt (blk_lt (g := gb164) (o := .cells #[.int .u8 a0_0, .int .i64 a0_1, .string a0_2] 25 (0, 0)) (bk BK164.out)) : gb171 ≠ gb164)); have n9_ := Aside0.mk ((by rw [hg]; exact Nat.ne_of_lt (blk_lt (g := gb165) (o := .cells #[.int .u8 a1_0, .int .i64 a1_1, .string a1_2] 25 (0, 0)) (bk BK165.out)) : gb165 ≠ gb171)); have n10_ := Aside0.mk ((by rw [hg]; exact Nat.ne_of_gt (blk_lt (g := gb165) (o := .cells #[.int .u8 a1_0, .int .i64 a1_1, .string a1_2] 25 (0, 0)) (bk BK165.out)) : gb171 ≠ gb165)); have n11_ := Aside0.mk ((by rw [hg]; exact Nat.ne_of_lt (blk_lt (g := gb166) (o := .cells #[.int .u8 0, .int .i64 0, .string (⟨#[]⟩ : ByteArray)] 25 (0, 0)) (bk BK166.out)) : gb166 ≠ gb171)); have n12_ := Aside0.mk ((by rw [hg]; exact Nat.ne_of_gt (blk_lt (g := gb166) (o := .cells #[.int .u8 0, .int .i64 0, .string (⟨#[]⟩ : ByteArray)] 25 (0, 0)) (bk BK166.out)) : gb171 ≠ gb166)); clear BK164; clear BK165; clear BK166; clear HB; have BK164 := n0_; have BK165 := n1_; have BK166 := n2_; have HB := n3_; have BK171 := n4_; have GW171 := n5_; have GE171 := n6_; have NB164_171 := n7_; have NB171_164 := n8_; have NB165_171 := n9_; have NB171_165 := n10_; have NB166_171 := n11_; have NB171_166 := n12_; clear n0_ n1_ n2_ n3_ n4_ n5_ n6_ n7_ n8_ n9_ n10_ n11_ n12_; clear hb hbox hg; have hnb48 := NB171_164.out; have hnc48 := NB164_171.out; have hnb49 := NB171_165.out; have hnc49 := NB165_171.out; have hnb50 := NB171_166.out; have hnc50 := NB166_171.out; have hcz51_0 : w47.cell? ⟨gb171, 0, none⟩ = some (.int .i64 0) := (blk_cell BK171.out 0).trans rfl; have hcz51_1 : w47.cell? ⟨gb171, 1, none⟩ = some (.int .u64 0) := (blk_cell BK171.out 1).trans rfl; have hfz51_0 := blk_frozen BK171.out 0; have hfz51_1 := blk_frozen BK171.out 1; have hcz52_0 : w47.cell? ⟨gb164, 0, none⟩ = some (.int .u8 a0_0) := (blk_cell BK164.out 0).trans rfl; have hcz52_1 : w47.cell? ⟨gb164, 1, none⟩ = some (.int .i64 a0_1) := (blk_cell BK164.out 1).trans rfl; have hcz52_2 : w47.cell? ⟨gb164, 2, none⟩ = some (.string a0_2) := (blk_cell BK164.out 2).trans rfl; have hfz52_0 := blk_frozen BK164.out 0; have hfz52_1 := blk_frozen BK164.out 1; have hfz52_2 := blk_frozen BK164.out 2; have hcz53_0 : w47.cell? ⟨gb165, 0, none⟩ = some (.int .u8 a1_0) := (blk_cell BK165.out 0).trans rfl; have hcz53_1 : w47.cell? ⟨gb165, 1, none⟩ = some (.int .i64 a1_1) := (blk_cell BK165.out 1).trans rfl; have hcz53_2 : w47.cell? ⟨gb165, 2, none⟩ = some (.string a1_2) := (blk_cell BK165.out 2).trans rfl; have hfz53_0 := blk_frozen BK165.out 0; have hfz53_1 := blk_frozen BK165.out 1; have hfz53_2 := blk_frozen BK165.out 2) | ((with_reducible refine gate_callee (f := 61) rfl ?_); refine goesL_ (some 53) rfl rfl Tryd.func61 (by kernel_rfl) rfl #[.agg #[.int .i64 t169, .int .u64 t170]] rfl (by (try simp only [List.map_toArray, List.map_cons, List.map_nil]); first | done | rfl | (simp only [List.length_drop, List.length_take]; rfl)) ?_; (with_reducible refine (vw_size.calls t169 t170 t180 t181 t182 _ A38.out).mono ?_); rintro e w54 ⟨rfl, hb⟩; refine ⟨_, rfl, ?_⟩; have n0_ := Aside0.mk (blk_below (g := gb164) (o := .cells #[.int .u8 a0_0, .int .i64 a0_1, .string a0_2] 25 (0, 0)) (by (with_reducible repeat (first | refine blk_drewN ?_ _ | refine blk_drew ?_ | refine blk_alloc ?_ _ | refine blk_far ?_ NB164_171.out _)); exact BK164.out) hb); have n1_ := Aside0.mk (blk_below (g := gb165) (o := .cells #[.int .u8 a1_0, .int .i64 a1_1, .string a1_2] 25 (0, 0)) (by (with_reducible repeat (first | refine blk_drewN ?_ _ | refine blk_drew ?_ | refine blk_alloc ?_ _ | refine blk_far ?_ NB165_171.out _)); exact BK165.out) hb); have n2_ := Aside0.mk (blk_below (g := gb166) (o := .cells #[.int .u8 0, .int .i64 0, .string (⟨#[]⟩ : ByteArray)] 25 (0, 0)) (by (with_reducible repeat (first | refine blk_drewN ?_ _ | refine blk_drew ?_ | refine blk_alloc ?_ _ | refine blk_far ?_ NB166_171.out _)); exact BK166.out) hb); have n3_ := Aside0.mk (blk_below (g := gb171) (o := .cells #[.int .i64 t169, .int .u64 t170] 49 (0, 0)) (by (with_reducible repeat first | apply blk_drewN | apply blk_drew | apply blk_alloc); refine blk_put (cs := #[.int .i64 t169, .int .u64 0]) ?_ 1 _ rfl; refine blk_put (cs := #[.int .i64 0, .int .u64 0]) ?_ 0 _ rfl; (with_reducible repeat first | apply blk_drewN | apply blk_drew | apply blk_alloc); exact BK171.out) hb); have n4_ := Aside0.mk (below_step (by repeat (first | (with_reducible first | exact HB.out | apply below_alloc | apply pw_below_drewN | apply below_drew1 | refine below_set ?_ (Aside0.out (by assumption))) | exact HB.out)) hb); clear BK164; clear BK165; clear BK166; clear BK171; clear HB; have BK164 := n0_; have BK165 := n1_; have BK166 := n2_; have BK171 := n3_; have HB := n4_; clear n0_ n1_ n2_ n3_ n4_; (try clear hb); (try clear hb2); (try clear hk); (try clear hi)) | ((with_reducible refine gate_callee (f := 62) rfl ?_); refine goesL_ (some 61) rfl rfl Tryd.func62 (by kernel_rfl) rfl #[.int .u64 (Int.tmod t180 10000), .int .u64 t181, .int .u64 10000] rfl (by (try simp only [List.map_toArray, List.map_cons, List.map_nil]); first | done | rfl | (simp only [List.length_drop, List.length_take]; rfl)) ?_; (with_reducible refine (bits_Div64.calls (Int.tmod t180 10000) t181 10000 t183 t184 _ A39.out).mono ?_); rintro e w' ⟨rfl, ⟨nd, rfl⟩⟩; refine ⟨_, rfl, ?_⟩; (try (rw [drewN_self w54]; generalize hq_ : World.drewN w54 _ = w54; have n0_ : Aside0 (w54.heap[gb164]? = some (.cells #[.int .u8 a0_0, .int .i64 a0_1, .string a0_2] 25 (0, 0))) := ⟨by rw [← hq_]; exact (bk BK164.out)⟩; have n1_ : Aside0 (w54.heap[gb165]? = some (.cells #[.int .u8 a1_0, .int .i64 a1_1, .string a1_2] 25 (0, 0))) := ⟨by rw [← hq_]; exact (bk BK165.out)⟩; have n2_ : Aside0 (w54.heap[gb166]? = some (.cells #[.int .u8 0, .int .i64 0, .string (⟨#[]⟩ : ByteArray)] 25 (0, 0))) := ⟨by rw [← hq_]; exact (bk BK166.out)⟩; have n3_ : Aside0 (w54.heap[gb171]? = some (.cells #[.int .i64 t169, .int .u64 t170] 49 (0, 0))) := ⟨by rw [← hq_]; exact (bk BK171.out)⟩; have n4_ : Aside0 (Below w.heap.size w w54) := ⟨by rw [← hq_]; exact (by repeat (first | (with_reducible first | exact HB.out | apply below_alloc | apply pw_below_drewN | apply below_drew1 | refine below_set ?_ (Aside0.out (by assumption))) | exact HB.out))⟩; clear BK164 BK165 BK166 BK171 HB hq_; have BK164 := n0_; have BK165 := n1_; have BK166 := n2_; have BK171 := n3_; have HB := n4_; clear n0_ n1_ n2_ n3_ n4_))) | ((with_reducible refine gate_dst (N := 14) rfl ?_); refine box_event ?hg (N := 14) ?hd (cs := #[.int .i64 0, .int .u64 0]) (t := 49) ?hr ?_; (case hd => rfl); (case hg => rfl); (case hr => first | (go_simp; done) | (go_simp; rfl)); intro gb185 hg w55 hbox hb; have n0_ := Aside0.mk (blk_below (bk BK164.out) hb); have n1_ := Aside0.mk (blk_below (bk BK165.out) hb); have n2_ := Aside0.mk (blk_below (bk BK166.out) hb); have n3_ := Aside0.mk (blk_below (bk BK171.out) hb); have n4_ := Aside0.mk (below_step (by repeat (first | (with_reducible first | exact HB.out | apply below_alloc | apply pw_below_drewN | apply below_drew1 | refine below_set ?_ (Aside0.out (by assumption))) | exact HB.out)) hb); have n5_ := Aside0.mk (hbox); have n6_ := Aside0.mk ((by rw [hg]; exact (below_size (by repeat (first | (with_reducible first | exact HB.out | apply below_alloc | apply pw_below_drewN | apply below_drew1 | refine below_set ?_ (Aside0.out (by assumption))) | exact HB.out))) : w.heap.size ≤ gb185)); have n7_ := Aside0.mk ((by rw [hg]; exact (below_size (by repeat (first | (with_reducible first | exact HB.out | apply below_alloc | apply pw_below_drewN | apply below_drew1 | refine below_set ?_ (Aside0.out (by assumption))) | exact HB.out))) : w.heap.size ≤ gb185)); have n8_ := Aside0.mk ((by rw [hg]; exact Nat.ne_of_lt (blk_lt (g := gb164) (o := .cells #[.int .u8 a0_0, .int .i64 a0_1, .string a0_2] 25 (0, 0)) (bk BK164.out)) : gb164 ≠ gb185)); have n9_ := Aside0.mk ((by rw [hg]; exact Nat.ne_of_gt (blk_lt (g := gb164) (o := .cells #[.int .u8 a0_0, .int .i64 a0_1, .string a0_2] 25 (0, 0)) (bk BK164.out)) : gb185 ≠ gb164)); have n10_ := Aside0.mk ((by rw [hg]; exact Nat.ne_of_lt (blk_lt (g := gb165) (o := .cells #[.int .u8 a1_0, .int .i64 a1_1, .string a1_2] 25 (0, 0)) (bk BK165.out)) : gb165 ≠ gb185)); have n11_ := Aside0.mk ((by rw [hg]; exact Nat.ne_of_gt (blk_lt (g := gb165) (o := .cells #[.int .u8 a1_0, .int .i64 a1_1, .string a1_2] 25 (0, 0)) (bk BK165.out)) : gb185 ≠ gb165)); have n12_ := Aside0.mk ((by rw [hg]; exact Nat.ne_of_lt (blk_lt (g := gb166) (o := .cells #[.int .u8 0, .int .i64 0, .string (⟨#[]⟩ : ByteArray)] 25 (0, 0)) (bk BK166.out)) : gb166 ≠ gb185)); have n13_ := Aside0.mk ((by rw [hg]; exact Nat.ne_of_gt (blk_lt (g := gb166) (o := .cells #[.int .u8 0, .int .i64 0, .string (⟨#[]⟩ : ByteArray)] 25 (0, 0)) (bk BK166.out)) : gb185 ≠ gb166)); have n14_ := Aside0.mk ((by rw [hg]; exact Nat.ne_of_lt (blk_lt (g := gb171) (o := .cells #[.int .i64 t169, .int .u64 t170] 49 (0, 0)) (bk BK171.out)) : gb171 ≠ gb185)); have n15_ := Aside0.mk ((by rw [hg]; exact Nat.ne_of_gt (blk_lt (g := gb171) (o := .cells #[.int .i64 t169, .int .u64 t170] 49 (0, 0)) (bk BK171.out)) : gb185 ≠ gb171)); clear BK164; clear BK165; clear BK166; clear BK171; clear HB; have BK164 := n0_; have BK165 := n1_; have BK166 := n2_; have BK171 := n3_; have HB := n4_; have BK185 := n5_; have GW185 := n6_; have GE185 := n7_; have NB164_185 := n8_; have NB185_164 := n9_; have NB165_185 := n10_; have NB185_165 := n11_; have NB166_185 := n12_; have NB185_166 := n13_; have NB171_185 := n14_; have NB185_171 := n15_; clear n0_ n1_ n2_ n3_ n4_ n5_ n6_ n7_ n8_ n9_ n10_ n11_ n12_ n13_ n14_ n15_; clear hb hbox hg; have hnb56 := NB185_164.out; have hnc56 := NB164_185.out; have hnb57 := NB185_165.out; have hnc57 := NB165_185.out; have hnb58 := NB185_166.out; have hnc58 := NB166_185.out; have hnb59 := NB185_171.out; have hnc59 := NB171_185.out; have hcz60_0 : w55.cell? ⟨gb185, 0, none⟩ = some (.int .i64 0) := (blk_cell BK185.out 0).trans rfl; have hcz60_1 : w55.cell? ⟨gb185, 1, none⟩ = some (.int .u64 0) := (blk_cell BK185.out 1).trans rfl; have hfz60_0 := blk_frozen BK185.out 0; have hfz60_1 := blk_frozen BK185.out 1))
      (try simp only [Act.put, List.setIfInBounds_toArray, List.set_cons_zero, List.set_cons_succ])
      go_cut [79] (fun v79 wc => ∃ (kq : Nat) (x79_39 : Bool), v79 = .bool x79_39 ∧ Aside0 (value_Mul.j1 kq t182 x79_39 (wrap64 (IntKind.u64.wrap (Int.tdiv t180 10000))) t183 = some (r1, r2, r3, r4)) ∧ Aside0 (kq ≤ kj3) ∧ Aside0 (wc.heap[gb164]? = some (.cells #[.int .u8 a0_0, .int .i64 a0_1, .string a0_2] 25 (0, 0))) ∧ Aside0 (wc.heap[gb165]? = some (.cells #[.int .u8 a1_0, .int .i64 a1_1, .string a1_2] 25 (0, 0))) ∧ Aside0 (wc.heap[gb166]? = some (.cells #[.int .u8 0, .int .i64 0, .string (⟨#[]⟩ : ByteArray)] 25 (0, 0))) ∧ Aside0 (wc.heap[gb171]? = some (.cells #[.int .i64 t169, .int .u64 t170] 49 (0, 0))) ∧ Aside0 (wc.heap[gb185]? = some (.cells #[.int .i64 (wrap64 (IntKind.u64.wrap (Int.tdiv t180 10000))), .int .u64 t183] 49 (0, 0))) ∧ Aside0 (Below w.heap.size w wc))
      case first =>
       have H := HC40.out
       clear HC40
       by_cases c61 : t184 > 5000
       ·rw [if_pos c61] at H
        have c61b0 : decide (5000 < t184) = true := decide_eq_true c61
        clear c61
        (first | rw [c61b0] | (simp only [i64_w, i32_w]; rw [c61b0]) | skip)
        have H' := Aside0.mk H
        clear H
        go_wp2
        go_meet
        case rel => exact ⟨_, (true), (by first | rfl | (simp; done) | (simp [*]; done)), H', ⟨by have := HJ3.out; first | omega | exact Nat.le_refl _⟩, ⟨by (with_reducible repeat (first | refine blk_drewN ?_ _ | refine blk_drew ?_ | refine blk_alloc ?_ _ | refine blk_far ?_ NB164_185.out _)); exact BK164.out⟩, ⟨by (with_reducible repeat (first | refine blk_drewN ?_ _ | refine blk_drew ?_ | refine blk_alloc ?_ _ | refine blk_far ?_ NB165_185.out _)); exact BK165.out⟩, ⟨by (with_reducible repeat (first | refine blk_drewN ?_ _ | refine blk_drew ?_ | refine blk_alloc ?_ _ | refine blk_far ?_ NB166_185.out _)); exact BK166.out⟩, ⟨by (with_reducible repeat (first | refine blk_drewN ?_ _ | refine blk_drew ?_ | refine blk_alloc ?_ _ | refine blk_far ?_ NB171_185.out _)); exact BK171.out⟩, ⟨by (with_reducible repeat first | apply blk_drewN | apply blk_drew | apply blk_alloc); refine blk_put (cs := #[.int .i64 (wrap64 (IntKind.u64.wrap (Int.tdiv t180 10000))), .int .u64 0]) ?_ 1 _ rfl; refine blk_put (cs := #[.int .i64 0, .int .u64 0]) ?_ 0 _ rfl; (with_reducible repeat first | apply blk_drewN | apply blk_drew | apply blk_alloc); exact BK185.out⟩, ⟨by repeat (first | (with_reducible first | exact HB.out | apply below_alloc | apply pw_below_drewN | apply below_drew1 | refine below_set ?_ (Aside0.out (by assumption))) | exact HB.out)⟩⟩
       ·rw [if_neg c61] at H
        have c61b0 : decide (5000 < t184) = false := decide_eq_false c61
        clear c61
        (first | rw [c61b0] | (simp only [i64_w, i32_w]; rw [c61b0]) | skip)
        by_cases c62 : t184 = 5000
        ·rw [if_pos c62] at H
         have c62b0 : (t184 == 5000) = true := beq_iff_eq.mpr c62
         have c62b1 : (t184 != 5000) = false := bne_eq_false_iff_eq.mpr c62
         clear c62
         have H' := Aside0.mk H
         clear H
         go_wp2
         go_meet
         case rel => exact ⟨_, (((Int.tmod t183 2) == 1)), (by first | rfl | (simp; done) | (simp [*]; done)), H', ⟨by have := HJ3.out; first | omega | exact Nat.le_refl _⟩, ⟨by (with_reducible repeat (first | refine blk_drewN ?_ _ | refine blk_drew ?_ | refine blk_alloc ?_ _ | refine blk_far ?_ NB164_185.out _)); exact BK164.out⟩, ⟨by (with_reducible repeat (first | refine blk_drewN ?_ _ | refine blk_drew ?_ | refine blk_alloc ?_ _ | refine blk_far ?_ NB165_185.out _)); exact BK165.out⟩, ⟨by (with_reducible repeat (first | refine blk_drewN ?_ _ | refine blk_drew ?_ | refine blk_alloc ?_ _ | refine blk_far ?_ NB166_185.out _)); exact BK166.out⟩, ⟨by (with_reducible repeat (first | refine blk_drewN ?_ _ | refine blk_drew ?_ | refine blk_alloc ?_ _ | refine blk_far ?_ NB171_185.out _)); exact BK171.out⟩, ⟨by (with_reducible repeat first | apply blk_drewN | apply blk_drew | apply blk_alloc); refine blk_put (cs := #[.int .i64 (wrap64 (IntKind.u64.wrap (Int.tdiv t180 10000))), .int .u64 0]) ?_ 1 _ rfl; refine blk_put (cs := #[.int .i64 0, .int .u64 0]) ?_ 0 _ rfl; (with_reducible repeat first | apply blk_drewN | apply blk_drew | apply blk_alloc); exact BK185.out⟩, ⟨by repeat (first | (with_reducible first | exact HB.out | apply below_alloc | apply pw_below_drewN | apply below_drew1 | refine below_set ?_ (Aside0.out (by assumption))) | exact HB.out)⟩⟩
        ·rw [if_neg c62] at H
         have c62b0 : (t184 == 5000) = false := beq_eq_false_iff_ne.mpr c62
         have c62b1 : (t184 != 5000) = true := bne_iff_ne.mpr c62
         have H' := Aside0.mk H
         clear H
         go_wp2
         go_meet
         case rel => exact ⟨_, (false), (by first | rfl | (simp; done) | (simp [*]; done)), H', ⟨by have := HJ3.out; first | omega | exact Nat.le_refl _⟩, ⟨by (with_reducible repeat (first | refine blk_drewN ?_ _ | refine blk_drew ?_ | refine blk_alloc ?_ _ | refine blk_far ?_ NB164_185.out _)); exact BK164.out⟩, ⟨by (with_reducible repeat (first | refine blk_drewN ?_ _ | refine blk_drew ?_ | refine blk_alloc ?_ _ | refine blk_far ?_ NB165_185.out _)); exact BK165.out⟩, ⟨by (with_reducible repeat (first | refine blk_drewN ?_ _ | refine blk_drew ?_ | refine blk_alloc ?_ _ | refine blk_far ?_ NB166_185.out _)); exact BK166.out⟩, ⟨by (with_reducible repeat (first | refine blk_drewN ?_ _ | refine blk_drew ?_ | refine blk_alloc ?_ _ | refine blk_far ?_ NB171_185.out _)); exact BK171.out⟩, ⟨by (with_reducible repeat first | apply blk_drewN | apply blk_drew | apply blk_alloc); refine blk_put (cs := #[.int .i64 (wrap64 (IntKind.u64.wrap (Int.tdiv t180 10000))), .int .u64 0]) ?_ 1 _ rfl; refine blk_put (cs := #[.int .i64 0, .int .u64 0]) ?_ 0 _ rfl; (with_reducible repeat first | apply blk_drewN | apply blk_drew | apply blk_alloc); exact BK185.out⟩, ⟨by repeat (first | (with_reducible first | exact HB.out | apply below_alloc | apply pw_below_drewN | apply below_drew1 | refine below_set ?_ (Aside0.out (by assumption))) | exact HB.out)⟩⟩
      case rest =>
       clear HC40
       try clear c1
       try clear c2
       try clear p2
       try clear c3
       try clear c4
       try clear c5
       try clear c6
       try clear p6
       try clear c8
       try clear c9
       try clear c11
       try clear c14
       try clear c14b0
       try clear c14b1
       try clear c15
       try clear c16
       try clear c17
       try clear c20
       try clear c20b0
       try clear c20b1
       try clear c21
       try clear c21b0
       try clear c21b1
       try clear c23
       try clear c24
       try clear c26
       try clear c30
       try clear c31
       try clear c32
       try clear c41
       try clear c42
       try clear c44
       try clear c48
       try clear c49
       try clear c50
       try clear c56
       try clear c57
       try clear c58
       try clear c59
       try clear c60
       try clear c61
       try clear c61b0
       try clear c62
       try clear c62b0
       try clear c62b1
       try clear hcz10_0
       try clear hcz10_1
       try clear hcz10_2
       try clear hcz12_0
       try clear hcz12_1
       try clear hcz12_2
       try clear hcz18_0
       try clear hcz18_1
       try clear hcz18_2
       try clear hcz25_0
       try clear hcz25_1
       try clear hcz25_2
       try clear hcz27_0
       try clear hcz27_1
       try clear hcz27_2
       try clear hcz33_0
       try clear hcz33_1
       try clear hcz34_0
       try clear hcz34_1
       try clear hcz34_2
       try clear hcz35_0
       try clear hcz35_1
       try clear hcz35_2
       try clear hcz37_0
       try clear hcz37_1
       try clear hcz37_2
       try clear hcz43_0
       try clear hcz43_1
       try clear hcz43_2
       try clear hcz45_0
       try clear hcz45_1
       try clear hcz45_2
       try clear hcz51_0
       try clear hcz51_1
       try clear hcz52_0
       try clear hcz52_1
       try clear hcz52_2
       try clear hcz53_0
       try clear hcz53_1
       try clear hcz53_2
       try clear hcz60_0
       try clear hcz60_1
       try clear hfz10_0
       try clear hfz10_1
       try clear hfz10_2
       try clear hfz12_0
       try clear hfz12_1
       try clear hfz12_2
       try clear hfz18_0
       try clear hfz18_1
       try clear hfz18_2
       try clear hfz25_0
       try clear hfz25_1
       try clear hfz25_2
       try clear hfz27_0
       try clear hfz27_1
       try clear hfz27_2
       try clear hfz33_0
       try clear hfz33_1
       try clear hfz34_0
       try clear hfz34_1
       try clear hfz34_2
       try clear hfz35_0
       try clear hfz35_1
       try clear hfz35_2
       try clear hfz37_0
       try clear hfz37_1
       try clear hfz37_2
       try clear hfz43_0
       try clear hfz43_1
       try clear hfz43_2
       try clear hfz45_0
       try clear hfz45_1
       try clear hfz45_2
       try clear hfz51_0
       try clear hfz51_1
       try clear hfz52_0
       try clear hfz52_1
       try clear hfz52_2
       try clear hfz53_0
       try clear hfz53_1
       try clear hfz53_2
       try clear hfz60_0
       try clear hfz60_1
       try clear p2
       obtain ⟨kq, x79_39, rfl, HA, HJ39, BK164, BK165, BK166, BK171, BK185, HB⟩ := hcut
       cases kq with
       | zero => exact absurd HA.out (by simp [value_Mul.j1])
       | succ kj39 =>
        have H := HA.out
        clear HA
        simp only [value_Mul.j1] at H
        have HC63 := Aside0.mk H
        clear H
        go_upto_if 79 with (fail)
        go_cut [] (fun wc => ∃ (kq : Nat) (x186000_62 : Int) (x186001_62 : Int), Aside0 (value_Mul.j2 kq t182 x186000_62 x186001_62 = some (r1, r2, r3, r4)) ∧ Aside0 (kq ≤ kj39) ∧ Aside0 (wc.heap[gb164]? = some (.cells #[.int .u8 a0_0, .int .i64 a0_1, .string a0_2] 25 (0, 0))) ∧ Aside0 (wc.heap[gb165]? = some (.cells #[.int .u8 a1_0, .int .i64 a1_1, .string a1_2] 25 (0, 0))) ∧ Aside0 (wc.heap[gb166]? = some (.cells #[.int .u8 0, .int .i64 0, .string (⟨#[]⟩ : ByteArray)] 25 (0, 0))) ∧ Aside0 (wc.heap[gb171]? = some (.cells #[.int .i64 t169, .int .u64 t170] 49 (0, 0))) ∧ Aside0 (wc.heap[gb185]? = some (.cells #[.int .i64 x186000_62, .int .u64 x186001_62] 49 (0, 0))) ∧ Aside0 (Below w.heap.size w wc))
        case first =>
         have H := HC63.out
         clear HC63
         by_cases c64 : x79_39 = true
         ·subst c64
          have H1 : ((value_of.f 1).bind fun bt186 => ((vw_plus.f (wrap64 (IntKind.u64.wrap (Int.tdiv t180 10000))) t183 bt186.1 bt186.2).bind fun bt188 => (value_Mul.j2 kj39 t182 bt188.1 bt188.2))) = some (r1, r2, r3, r4) := by rw [if_pos rfl] at H; exact H
          clear H
          have H := H1
          clear H1
          replace H := Option.bind_eq_some_iff.mp H
          obtain ⟨⟨t186, t187⟩, A650, H⟩ := H
          replace H : ((vw_plus.f (wrap64 (IntKind.u64.wrap (Int.tdiv t180 10000))) t183 t186 t187).bind fun bt188 => (value_Mul.j2 kj39 t182 bt188.1 bt188.2)) = some (r1, r2, r3, r4) := H
          have A65 := Aside0.mk A650
          clear A650
          replace H := Option.bind_eq_some_iff.mp H
          obtain ⟨⟨t188, t189⟩, A660, H⟩ := H
          replace H : (value_Mul.j2 kj39 t182 t188 t189) = some (r1, r2, r3, r4) := H
          have A66 := Aside0.mk A660
          clear A660
          have H' := Aside0.mk H
          clear H
          try go_wp2
          have n0_ := Aside0.mk (blk_drew BK164.out)
          have n1_ := Aside0.mk (blk_drew BK165.out)
          have n2_ := Aside0.mk (blk_drew BK166.out)
          have n3_ := Aside0.mk (blk_drew BK171.out)
          have n4_ := Aside0.mk (blk_drew BK185.out)
          have n5_ := Aside0.mk (below_drew1 HB.out)
          clear BK164
          clear BK165
          clear BK166
          clear BK171
          clear BK185
          clear HB
          have BK164 := n0_
          have BK165 := n1_
          have BK166 := n2_
          have BK171 := n3_
          have BK185 := n4_
          have HB := n5_
          clear n0_ n1_ n2_ n3_ n4_ n5_
          refine start_ (n := 4) (S := fun w' => w'.cell? ⟨gb185, 0, none⟩ = some (.int .i64 (wrap64 (IntKind.u64.wrap (Int.tdiv t180 10000)))) ∧ w'.cell? ⟨gb185, 1, none⟩ = some (.int .u64 t183)) (ds := [3]) #[false, false, false, false] (by kernel_rfl) rfl rfl ⟨(blk_cell BK185.out 0).trans rfl, (blk_cell BK185.out 1).trans rfl⟩ (fun hHeld => ?_)
          generalize wc.drew = w67 at BK164 BK165 BK166 BK171 BK185 HB hHeld ⊢
          refine take_ (i := 0) (N := some 80) (v := ?_) (a' := ?_) #[true, false, false, false] rfl rfl (by kernel_rfl) (fun _ _ _ h => h) (Or.inl ⟨by rfl, ?_⟩) hHeld ?_ ?_
          rotate_left
          ·rintro w' ⟨s0, s1⟩
           go_simp
           with_reducible rfl
          rotate_left
          ·simp only [Act.put, List.setIfInBounds_toArray, List.set_cons_zero, List.set_cons_succ, i64_w, i32_w]
           rfl
          refine one_ (i := 1) (N := some 81) #[true, true, false, false] rfl rfl (by kernel_rfl) (by decide) (fun K hK => ?_)
          refine goes_ Tryd.func63 (by kernel_rfl) rfl #[.int .i64 1] (by rfl) rfl rfl (by (try simp only [List.map_toArray, List.map_cons, List.map_nil]); first | done | rfl | (simp only [List.length_drop, List.length_take]; rfl)) ?_
          with_reducible refine (value_of.calls 1 t186 t187 _ A65.out).mono ?_
          rintro e w68 ⟨rfl, hb⟩
          refine ⟨_, rfl, ?_⟩
          have n0_ := Aside0.mk (blk_below (bk BK164.out) hb)
          have n1_ := Aside0.mk (blk_below (bk BK165.out) hb)
          have n2_ := Aside0.mk (blk_below (bk BK166.out) hb)
          have n3_ := Aside0.mk (blk_below (bk BK171.out) hb)
          have n4_ := Aside0.mk (blk_below (bk BK185.out) hb)
          have n5_ := Aside0.mk (below_step (by repeat (first | (with_reducible first | exact HB.out | apply below_alloc | apply pw_below_drewN | apply below_drew1 | refine below_set ?_ (Aside0.out (by assumption))) | exact HB.out)) hb)
          clear BK164
          clear BK165
          clear BK166
          clear BK171
          clear BK185
          clear HB
          have BK164 := n0_
          have BK165 := n1_
          have BK166 := n2_
          have BK171 := n3_
          have BK185 := n4_
          have HB := n5_
          clear n0_ n1_ n2_ n3_ n4_ n5_
          (try clear hb)
          (try clear hb2)
          (try clear hk)
          (try clear hi)
          refine hK.out _ _ ⟨(blk_cell BK185.out 0).trans rfl, (blk_cell BK185.out 1).trans rfl⟩ (fun hHeld => ?_)
          clear hK K
          refine norm_ (a' := ?_) ?_ ?_
          rotate_left
          ·show Act.put _ (some 81) _ = _
           simp only [Act.put, List.setIfInBounds_toArray, List.set_cons_zero, List.set_cons_succ, i64_w, i32_w]
           rfl
          refine one_ (i := 2) (N := some 82) #[true, true, true, false] rfl rfl (by kernel_rfl) (by decide) (fun K hK => ?_)
          refine goes_ Tryd.func40 (by kernel_rfl) rfl #[.agg #[.int .i64 (wrap64 (IntKind.u64.wrap (Int.tdiv t180 10000))), .int .u64 t183], .agg #[.int .i64 t186, .int .u64 t187]] (by rfl) rfl rfl (by (try simp only [List.map_toArray, List.map_cons, List.map_nil]); first | done | rfl | (simp only [List.length_drop, List.length_take]; rfl)) ?_
          with_reducible refine (vw_plus.calls (wrap64 (IntKind.u64.wrap (Int.tdiv t180 10000))) t183 t186 t187 t188 t189 _ A66.out).mono ?_
          rintro e w69 ⟨rfl, hb⟩
          refine ⟨_, rfl, ?_⟩
          have n0_ := Aside0.mk (blk_below (bk BK164.out) hb)
          have n1_ := Aside0.mk (blk_below (bk BK165.out) hb)
          have n2_ := Aside0.mk (blk_below (bk BK166.out) hb)
          have n3_ := Aside0.mk (blk_below (bk BK171.out) hb)
          have n4_ := Aside0.mk (blk_below (bk BK185.out) hb)
          have n5_ := Aside0.mk (below_step (by repeat (first | (with_reducible first | exact HB.out | apply below_alloc | apply pw_below_drewN | apply below_drew1 | refine below_set ?_ (Aside0.out (by assumption))) | exact HB.out)) hb)
          clear BK164
          clear BK165
          clear BK166
          clear BK171
          clear BK185
          clear HB
          have BK164 := n0_
          have BK165 := n1_
          have BK166 := n2_
          have BK171 := n3_
          have BK185 := n4_
          have HB := n5_
          clear n0_ n1_ n2_ n3_ n4_ n5_
          (try clear hb)
          (try clear hb2)
          (try clear hk)
          (try clear hi)
          refine hK.out _ _ ⟨(blk_cell BK185.out 0).trans rfl, (blk_cell BK185.out 1).trans rfl⟩ (fun hHeld => ?_)
          clear hK K
          refine norm_ (a' := ?_) ?_ ?_
          rotate_left
          ·show Act.put _ (some 82) _ = _
           simp only [Act.put, List.setIfInBounds_toArray, List.set_cons_zero, List.set_cons_succ, i64_w, i32_w]
           rfl
          refine last_ (i := 3) (N := none) #[true, true, true, true] rfl rfl (by kernel_rfl) (by decide) (fun K hK => ?_)
          have hs70 : w69.cell? ⟨gb185, 0, none⟩ = some (.int .i64 (wrap64 (IntKind.u64.wrap (Int.tdiv t180 10000)))) := (blk_cell BK185.out 0).trans rfl
          have hfs70 := blk_frozen BK185.out 0
          have hns70_0 := NB164_185.out
          have hns70_1 := NB165_185.out
          have hns70_2 := NB166_185.out
          have hns70_3 := NB171_185.out
          have hms70_0 := NB185_164.out
          have hms70_1 := NB185_165.out
          have hms70_2 := NB185_166.out
          have hms70_3 := NB185_171.out
          have hs71 : w69.cell? ⟨gb185, 1, none⟩ = some (.int .u64 t183) := (blk_cell BK185.out 1).trans rfl
          have hfs71 := blk_frozen BK185.out 1
          have hns71_0 := NB164_185.out
          have hns71_1 := NB165_185.out
          have hns71_2 := NB166_185.out
          have hns71_3 := NB171_185.out
          have hms71_0 := NB185_164.out
          have hms71_1 := NB185_165.out
          have hms71_2 := NB185_166.out
          have hms71_3 := NB185_171.out
          refine skip_ (w1 := ?_) (by rfl) rfl ?_ ?_
          rotate_left
          ·go_simp
           rfl
          refine hK.out _ _ ?_
          clear hK K
          refine done_ (by kernel_rfl) ?_
          try go_wp2
          go_meet
          case rel => exact ⟨_, (t188), (t189), H', ⟨by have := HJ3.out; have := HJ39.out; first | omega | exact Nat.le_refl _⟩, ⟨by (with_reducible repeat (first | refine blk_drewN ?_ _ | refine blk_drew ?_ | refine blk_alloc ?_ _ | refine blk_far ?_ NB164_185.out _)); exact BK164.out⟩, ⟨by (with_reducible repeat (first | refine blk_drewN ?_ _ | refine blk_drew ?_ | refine blk_alloc ?_ _ | refine blk_far ?_ NB165_185.out _)); exact BK165.out⟩, ⟨by (with_reducible repeat (first | refine blk_drewN ?_ _ | refine blk_drew ?_ | refine blk_alloc ?_ _ | refine blk_far ?_ NB166_185.out _)); exact BK166.out⟩, ⟨by (with_reducible repeat (first | refine blk_drewN ?_ _ | refine blk_drew ?_ | refine blk_alloc ?_ _ | refine blk_far ?_ NB171_185.out _)); exact BK171.out⟩, ⟨by (with_reducible repeat first | apply blk_drewN | apply blk_drew | apply blk_alloc); refine blk_put (cs := #[.int .i64 t188, .int .u64 t183]) ?_ 1 _ rfl; refine blk_put (cs := #[.int .i64 (wrap64 (IntKind.u64.wrap (Int.tdiv t180 10000))), .int .u64 t183]) ?_ 0 _ rfl; (with_reducible repeat first | apply blk_drewN | apply blk_drew | apply blk_alloc); exact BK185.out⟩, ⟨by repeat (first | (with_reducible first | exact HB.out | apply below_alloc | apply pw_below_drewN | apply below_drew1 | refine below_set ?_ (Aside0.out (by assumption))) | exact HB.out)⟩⟩
         ·replace c64 := Bool.eq_false_iff.mpr c64
          subst c64
          have H1 : (value_Mul.j2 kj39 t182 (wrap64 (IntKind.u64.wrap (Int.tdiv t180 10000))) t183) = some (r1, r2, r3, r4) := by rw [if_neg (show ¬ (false = true) by decide)] at H; exact H
          clear H
          have H := H1
          clear H1
          have H' := Aside0.mk H
          clear H
          go_wp2
          go_meet
          case rel => exact ⟨_, ((wrap64 (IntKind.u64.wrap (Int.tdiv t180 10000)))), (t183), H', ⟨by have := HJ3.out; have := HJ39.out; first | omega | exact Nat.le_refl _⟩, ⟨bk BK164.out⟩, ⟨bk BK165.out⟩, ⟨bk BK166.out⟩, ⟨bk BK171.out⟩, ⟨bk BK185.out⟩, ⟨by repeat (first | (with_reducible first | exact HB.out | apply below_alloc | apply pw_below_drewN | apply below_drew1 | refine below_set ?_ (Aside0.out (by assumption))) | exact HB.out)⟩⟩
        case rest =>
         clear HC63
         try clear c1
         try clear c2
         try clear p2
         try clear c3
         try clear c4
         try clear c5
         try clear c6
         try clear p6
         try clear c8
         try clear c9
         try clear c11
         try clear c14
         try clear c14b0
         try clear c14b1
         try clear c15
         try clear c16
         try clear c17
         try clear c20
         try clear c20b0
         try clear c20b1
         try clear c21
         try clear c21b0
         try clear c21b1
         try clear c23
         try clear c24
         try clear c26
         try clear c30
         try clear c31
         try clear c32
         try clear c40
         try clear c41
         try clear c42
         try clear c44
         try clear c48
         try clear c49
         try clear c50
         try clear c56
         try clear c57
         try clear c58
         try clear c59
         try clear c60
         try clear c61
         try clear c61b0
         try clear c62
         try clear c62b0
         try clear c62b1
         try clear c63
         try clear c64
         try clear p64
         try clear hcz10_0
         try clear hcz10_1
         try clear hcz10_2
         try clear hcz12_0
         try clear hcz12_1
         try clear hcz12_2
         try clear hcz18_0
         try clear hcz18_1
         try clear hcz18_2
         try clear hcz25_0
         try clear hcz25_1
         try clear hcz25_2
         try clear hcz27_0
         try clear hcz27_1
         try clear hcz27_2
         try clear hcz33_0
         try clear hcz33_1
         try clear hcz34_0
         try clear hcz34_1
         try clear hcz34_2
         try clear hcz35_0
         try clear hcz35_1
         try clear hcz35_2
         try clear hcz37_0
         try clear hcz37_1
         try clear hcz37_2
         try clear hcz43_0
         try clear hcz43_1
         try clear hcz43_2
         try clear hcz45_0
         try clear hcz45_1
         try clear hcz45_2
         try clear hcz51_0
         try clear hcz51_1
         try clear hcz52_0
         try clear hcz52_1
         try clear hcz52_2
         try clear hcz53_0
         try clear hcz53_1
         try clear hcz53_2
         try clear hcz60_0
         try clear hcz60_1
         try clear hfz10_0
         try clear hfz10_1
         try clear hfz10_2
         try clear hfz12_0
         try clear hfz12_1
         try clear hfz12_2
         try clear hfz18_0
         try clear hfz18_1
         try clear hfz18_2
         try clear hfz25_0
         try clear hfz25_1
         try clear hfz25_2
         try clear hfz27_0
         try clear hfz27_1
         try clear hfz27_2
         try clear hfz33_0
         try clear hfz33_1
         try clear hfz34_0
         try clear hfz34_1
         try clear hfz34_2
         try clear hfz35_0
         try clear hfz35_1
         try clear hfz35_2
         try clear hfz37_0
         try clear hfz37_1
         try clear hfz37_2
         try clear hfz43_0
         try clear hfz43_1
         try clear hfz43_2
         try clear hfz45_0
         try clear hfz45_1
         try clear hfz45_2
         try clear hfz51_0
         try clear hfz51_1
         try clear hfz52_0
         try clear hfz52_1
         try clear hfz52_2
         try clear hfz53_0
         try clear hfz53_1
         try clear hfz53_2
         try clear hfz60_0
         try clear hfz60_1
         try clear p2
         try clear p6
         obtain ⟨kq, x186000_62, x186001_62, HA, HJ62, BK164, BK165, BK166, BK171, BK185, HB⟩ := hcut
         cases kq with
         | zero => exact absurd HA.out (by simp [value_Mul.j2])
         | succ kj62 =>
          have H := HA.out
          clear HA
          simp only [value_Mul.j2] at H
          by_cases c72 : t182 = true
          ·subst c72
           have H1 : ((vw_minus.f x186000_62 x186001_62).bind fun bt190 => ((vw_told.f bt190.1 bt190.2 3).bind fun bt192 => (some (bt192.1, bt192.2.1, bt192.2.2.1, bt192.2.2.2)))) = some (r1, r2, r3, r4) := by rw [if_pos rfl] at H; exact H
           clear H
           have H := H1
           clear H1
           replace H := Option.bind_eq_some_iff.mp H
           obtain ⟨⟨t190, t191⟩, A730, H⟩ := H
           replace H : ((vw_told.f t190 t191 3).bind fun bt192 => (some (bt192.1, bt192.2.1, bt192.2.2.1, bt192.2.2.2))) = some (r1, r2, r3, r4) := H
           have A73 := Aside0.mk A730
           clear A730
           replace H := Option.bind_eq_some_iff.mp H
           obtain ⟨⟨t192, t193, t194, t195⟩, A740, H⟩ := H
           replace H : (some (t192, t193, t194, t195)) = some (r1, r2, r3, r4) := H
           have A74 := Aside0.mk A740
           clear A740
           simp only [Option.some.injEq, Prod.mk.injEq] at H
           obtain ⟨rfl, rfl, rfl, rfl⟩ := H
           have hnb75 := NB185_164.out
           have hnc75 := NB164_185.out
           have hnb76 := NB185_165.out
           have hnc76 := NB165_185.out
           have hnb77 := NB185_166.out
           have hnc77 := NB166_185.out
           have hnb78 := NB185_171.out
           have hnc78 := NB171_185.out
           have hcz79_0 : wc.cell? ⟨gb185, 0, none⟩ = some (.int .i64 x186000_62) := (blk_cell BK185.out 0).trans rfl
           have hcz79_1 : wc.cell? ⟨gb185, 1, none⟩ = some (.int .u64 x186001_62) := (blk_cell BK185.out 1).trans rfl
           have hfz79_0 := blk_frozen BK185.out 0
           have hfz79_1 := blk_frozen BK185.out 1
           go_wp2_with (first | ((with_reducible refine gate_callee (f := 41) rfl ?_); refine goesL_ (some 85) rfl rfl Tryd.func41 (by kernel_rfl) rfl #[.agg #[.int .i64 x186000_62, .int .u64 x186001_62]] rfl (by (try simp only [List.map_toArray, List.map_cons, List.map_nil]); first | done | rfl | (simp only [List.length_drop, List.length_take]; rfl)) ?_; (with_reducible refine (vw_minus.calls x186000_62 x186001_62 t190 t191 _ A73.out).mono ?_); rintro e w80 ⟨rfl, hb⟩; refine ⟨_, rfl, ?_⟩; have n0_ := Aside0.mk (blk_below (bk BK164.out) hb); have n1_ := Aside0.mk (blk_below (bk BK165.out) hb); have n2_ := Aside0.mk (blk_below (bk BK166.out) hb); have n3_ := Aside0.mk (blk_below (bk BK171.out) hb); have n4_ := Aside0.mk (blk_below (bk BK185.out) hb); have n5_ := Aside0.mk (below_step (by repeat (first | (with_reducible first | exact HB.out | apply below_alloc | apply pw_below_drewN | apply below_drew1 | refine below_set ?_ (Aside0.out (by assumption))) | exact HB.out)) hb); clear BK164; clear BK165; clear BK166; clear BK171; clear BK185; clear HB; have BK164 := n0_; have BK165 := n1_; have BK166 := n2_; have BK171 := n3_; have BK185 := n4_; have HB := n5_; clear n0_ n1_ n2_ n3_ n4_ n5_; (try clear hb); (try clear hb2); (try clear hk); (try clear hi); have hcz81_0 : w80.cell? ⟨gb185, 0, none⟩ = some (.int .i64 x186000_62) := (blk_cell BK185.out 0).trans rfl; have hcz81_1 : w80.cell? ⟨gb185, 1, none⟩ = some (.int .u64 x186001_62) := (blk_cell BK185.out 1).trans rfl; have hfz81_0 := blk_frozen BK185.out 0; have hfz81_1 := blk_frozen BK185.out 1) | ((with_reducible refine gate_callee (f := 60) rfl ?_); refine goesL_ (some 87) rfl rfl Tryd.func60 (by kernel_rfl) rfl #[.agg #[.int .i64 t190, .int .u64 t191], .int .u8 3] rfl (by (try simp only [List.map_toArray, List.map_cons, List.map_nil]); first | done | rfl | (simp only [List.length_drop, List.length_take]; rfl)) ?_; (with_reducible refine (vw_told.calls t190 t191 3 t192 t193 t194 t195 _ A74.out).mono ?_); rintro e w82 ⟨rfl, hb⟩; refine ⟨_, rfl, ?_⟩; have n0_ := Aside0.mk (blk_below (g := gb164) (o := .cells #[.int .u8 a0_0, .int .i64 a0_1, .string a0_2] 25 (0, 0)) (by (with_reducible repeat (first | refine blk_drewN ?_ _ | refine blk_drew ?_ | refine blk_alloc ?_ _ | refine blk_far ?_ NB164_185.out _)); exact BK164.out) hb); have n1_ := Aside0.mk (blk_below (g := gb165) (o := .cells #[.int .u8 a1_0, .int .i64 a1_1, .string a1_2] 25 (0, 0)) (by (with_reducible repeat (first | refine blk_drewN ?_ _ | refine blk_drew ?_ | refine blk_alloc ?_ _ | refine blk_far ?_ NB165_185.out _)); exact BK165.out) hb); have n2_ := Aside0.mk (blk_below (g := gb166) (o := .cells #[.int .u8 0, .int .i64 0, .string (⟨#[]⟩ : ByteArray)] 25 (0, 0)) (by (with_reducible repeat (first | refine blk_drewN ?_ _ | refine blk_drew ?_ | refine blk_alloc ?_ _ | refine blk_far ?_ NB166_185.out _)); exact BK166.out) hb); have n3_ := Aside0.mk (blk_below (g := gb171) (o := .cells #[.int .i64 t169, .int .u64 t170] 49 (0, 0)) (by (with_reducible repeat (first | refine blk_drewN ?_ _ | refine blk_drew ?_ | refine blk_alloc ?_ _ | refine blk_far ?_ NB171_185.out _)); exact BK171.out) hb); have n4_ := Aside0.mk (blk_below (g := gb185) (o := .cells #[.int .i64 t190, .int .u64 t191] 49 (0, 0)) (by (with_reducible repeat first | apply blk_drewN | apply blk_drew | apply blk_alloc); refine blk_put (cs := #[.int .i64 t190, .int .u64 x186001_62]) ?_ 1 _ rfl; refine blk_put (cs := #[.int .i64 x186000_62, .int .u64 x186001_62]) ?_ 0 _ rfl; (with_reducible repeat first | apply blk_drewN | apply blk_drew | apply blk_alloc); exact BK185.out) hb); have n5_ := Aside0.mk (below_step (by repeat (first | (with_reducible first | exact HB.out | apply below_alloc | apply pw_below_drewN | apply below_drew1 | refine below_set ?_ (Aside0.out (by assumption))) | exact HB.out)) hb); clear BK164; clear BK165; clear BK166; clear BK171; clear BK185; clear HB; have BK164 := n0_; have BK165 := n1_; have BK166 := n2_; have BK171 := n3_; have BK185 := n4_; have HB := n5_; clear n0_ n1_ n2_ n3_ n4_ n5_; (try clear hb); (try clear hb2); (try clear hk); (try clear hi); have hnb83 := NB166_164.out; have hnc83 := NB164_166.out; have hnb84 := NB166_165.out; have hnc84 := NB165_166.out; have hnb85 := NB166_171.out; have hnc85 := NB171_166.out; have hcz86_0 : w82.cell? ⟨gb166, 0, none⟩ = some (.int .u8 0) := (blk_cell BK166.out 0).trans rfl; have hcz86_1 : w82.cell? ⟨gb166, 1, none⟩ = some (.int .i64 0) := (blk_cell BK166.out 1).trans rfl; have hcz86_2 : w82.cell? ⟨gb166, 2, none⟩ = some (.string (⟨#[]⟩ : ByteArray)) := (blk_cell BK166.out 2).trans rfl; have hfz86_0 := blk_frozen BK166.out 0; have hfz86_1 := blk_frozen BK166.out 1; have hfz86_2 := blk_frozen BK166.out 2))
           refine bodyPost_ret (results_ct rfl _ _ gb166 25 #[.int .u8 t192, .int .i64 t193, .string t194] (0, 0) _ rfl (by (with_reducible repeat first | apply blk_drewN | apply blk_drew | apply blk_alloc); refine blk_put (cs := #[.int .u8 t192, .int .i64 t193, .string (⟨#[]⟩ : ByteArray)]) ?_ 2 _ rfl; (with_reducible repeat first | apply blk_drewN | apply blk_drew | apply blk_alloc); refine blk_put (cs := #[.int .u8 t192, .int .i64 0, .string (⟨#[]⟩ : ByteArray)]) ?_ 1 _ rfl; (with_reducible repeat first | apply blk_drewN | apply blk_drew | apply blk_alloc); refine blk_put (cs := #[.int .u8 0, .int .i64 0, .string (⟨#[]⟩ : ByteArray)]) ?_ 0 _ rfl; (with_reducible repeat first | apply blk_drewN | apply blk_drew | apply blk_alloc); exact BK166.out) Tryd.underlying25 rfl (by kernel_rfl)) rfl ?_
           exact ⟨by first | rfl | (simp [errW_none, errW_some] <;> rfl) | (simp [*, errW_none, errW_some] <;> rfl), by repeat (first | (with_reducible first | exact HB.out | apply below_alloc | apply pw_below_drewN | apply below_drew1 | refine below_set ?_ (Aside0.out (by assumption))) | exact HB.out)⟩
          ·replace c72 := Bool.eq_false_iff.mpr c72
           subst c72
           have H1 : ((vw_told.f x186000_62 x186001_62 3).bind fun bt196 => (some (bt196.1, bt196.2.1, bt196.2.2.1, bt196.2.2.2))) = some (r1, r2, r3, r4) := by rw [if_neg (show ¬ (false = true) by decide)] at H; exact H
           clear H
           have H := H1
           clear H1
           replace H := Option.bind_eq_some_iff.mp H
           obtain ⟨⟨t196, t197, t198, t199⟩, A870, H⟩ := H
           replace H : (some (t196, t197, t198, t199)) = some (r1, r2, r3, r4) := H
           have A87 := Aside0.mk A870
           clear A870
           simp only [Option.some.injEq, Prod.mk.injEq] at H
           obtain ⟨rfl, rfl, rfl, rfl⟩ := H
           have hnb88 := NB185_164.out
           have hnc88 := NB164_185.out
           have hnb89 := NB185_165.out
           have hnc89 := NB165_185.out
           have hnb90 := NB185_166.out
           have hnc90 := NB166_185.out
           have hnb91 := NB185_171.out
           have hnc91 := NB171_185.out
           have hcz92_0 : wc.cell? ⟨gb185, 0, none⟩ = some (.int .i64 x186000_62) := (blk_cell BK185.out 0).trans rfl
           have hcz92_1 : wc.cell? ⟨gb185, 1, none⟩ = some (.int .u64 x186001_62) := (blk_cell BK185.out 1).trans rfl
           have hfz92_0 := blk_frozen BK185.out 0
           have hfz92_1 := blk_frozen BK185.out 1
           go_wp2_with (first | ((with_reducible refine gate_callee (f := 60) rfl ?_); refine goesL_ (some 87) rfl rfl Tryd.func60 (by kernel_rfl) rfl #[.agg #[.int .i64 x186000_62, .int .u64 x186001_62], .int .u8 3] rfl (by (try simp only [List.map_toArray, List.map_cons, List.map_nil]); first | done | rfl | (simp only [List.length_drop, List.length_take]; rfl)) ?_; (with_reducible refine (vw_told.calls x186000_62 x186001_62 3 t196 t197 t198 t199 _ A87.out).mono ?_); rintro e w93 ⟨rfl, hb⟩; refine ⟨_, rfl, ?_⟩; have n0_ := Aside0.mk (blk_below (bk BK164.out) hb); have n1_ := Aside0.mk (blk_below (bk BK165.out) hb); have n2_ := Aside0.mk (blk_below (bk BK166.out) hb); have n3_ := Aside0.mk (blk_below (bk BK171.out) hb); have n4_ := Aside0.mk (blk_below (bk BK185.out) hb); have n5_ := Aside0.mk (below_step (by repeat (first | (with_reducible first | exact HB.out | apply below_alloc | apply pw_below_drewN | apply below_drew1 | refine below_set ?_ (Aside0.out (by assumption))) | exact HB.out)) hb); clear BK164; clear BK165; clear BK166; clear BK171; clear BK185; clear HB; have BK164 := n0_; have BK165 := n1_; have BK166 := n2_; have BK171 := n3_; have BK185 := n4_; have HB := n5_; clear n0_ n1_ n2_ n3_ n4_ n5_; (try clear hb); (try clear hb2); (try clear hk); (try clear hi); have hnb94 := NB166_164.out; have hnc94 := NB164_166.out; have hnb95 := NB166_165.out; have hnc95 := NB165_166.out; have hnb96 := NB166_171.out; have hnc96 := NB171_166.out; have hcz97_0 : w93.cell? ⟨gb166, 0, none⟩ = some (.int .u8 0) := (blk_cell BK166.out 0).trans rfl; have hcz97_1 : w93.cell? ⟨gb166, 1, none⟩ = some (.int .i64 0) := (blk_cell BK166.out 1).trans rfl; have hcz97_2 : w93.cell? ⟨gb166, 2, none⟩ = some (.string (⟨#[]⟩ : ByteArray)) := (blk_cell BK166.out 2).trans rfl; have hfz97_0 := blk_frozen BK166.out 0; have hfz97_1 := blk_frozen BK166.out 1; have hfz97_2 := blk_frozen BK166.out 2))
           refine bodyPost_ret (results_ct rfl _ _ gb166 25 #[.int .u8 t196, .int .i64 t197, .string t198] (0, 0) _ rfl (by (with_reducible repeat first | apply blk_drewN | apply blk_drew | apply blk_alloc); refine blk_put (cs := #[.int .u8 t196, .int .i64 t197, .string (⟨#[]⟩ : ByteArray)]) ?_ 2 _ rfl; (with_reducible repeat first | apply blk_drewN | apply blk_drew | apply blk_alloc); refine blk_put (cs := #[.int .u8 t196, .int .i64 0, .string (⟨#[]⟩ : ByteArray)]) ?_ 1 _ rfl; (with_reducible repeat first | apply blk_drewN | apply blk_drew | apply blk_alloc); refine blk_put (cs := #[.int .u8 0, .int .i64 0, .string (⟨#[]⟩ : ByteArray)]) ?_ 0 _ rfl; (with_reducible repeat first | apply blk_drewN | apply blk_drew | apply blk_alloc); exact BK166.out) Tryd.underlying25 rfl (by kernel_rfl)) rfl ?_
           exact ⟨by first | rfl | (simp [errW_none, errW_some] <;> rfl) | (simp [*, errW_none, errW_some] <;> rfl), by repeat (first | (with_reducible first | exact HB.out | apply below_alloc | apply pw_below_drewN | apply below_drew1 | refine below_set ?_ (Aside0.out (by assumption))) | exact HB.out)⟩
    ·rw [if_neg c20] at H
     have c20b0 : (a0_0 == a1_0) = false := beq_eq_false_iff_ne.mpr c20
     have c20b1 : (a0_0 != a1_0) = true := bne_iff_ne.mpr c20
     replace H := Option.bind_eq_some_iff.mp H
     obtain ⟨⟨t176, t177, t178, t179⟩, A980, H⟩ := H
     replace H : (some (t176, t177, t178, t179)) = some (r1, r2, r3, r4) := H
     have A98 := Aside0.mk A980
     clear A980
     simp only [Option.some.injEq, Prod.mk.injEq] at H
     obtain ⟨rfl, rfl, rfl, rfl⟩ := H
     have hnb99 := NB164_165.out
     have hnc99 := NB165_164.out
     have hnb100 := NB164_166.out
     have hnc100 := NB166_164.out
     have hcz101_0 : wc.cell? ⟨gb164, 0, none⟩ = some (.int .u8 a0_0) := (blk_cell BK164.out 0).trans rfl
     have hcz101_1 : wc.cell? ⟨gb164, 1, none⟩ = some (.int .i64 a0_1) := (blk_cell BK164.out 1).trans rfl
     have hcz101_2 : wc.cell? ⟨gb164, 2, none⟩ = some (.string a0_2) := (blk_cell BK164.out 2).trans rfl
     have hfz101_0 := blk_frozen BK164.out 0
     have hfz101_1 := blk_frozen BK164.out 1
     have hfz101_2 := blk_frozen BK164.out 2
     have hnb102 := NB165_166.out
     have hnc102 := NB166_165.out
     have hcz103_0 : wc.cell? ⟨gb165, 0, none⟩ = some (.int .u8 a1_0) := (blk_cell BK165.out 0).trans rfl
     have hcz103_1 : wc.cell? ⟨gb165, 1, none⟩ = some (.int .i64 a1_1) := (blk_cell BK165.out 1).trans rfl
     have hcz103_2 : wc.cell? ⟨gb165, 2, none⟩ = some (.string a1_2) := (blk_cell BK165.out 2).trans rfl
     have hfz103_0 := blk_frozen BK165.out 0
     have hfz103_1 := blk_frozen BK165.out 1
     have hfz103_2 := blk_frozen BK165.out 2
     go_wp2_with (first | ((with_reducible refine gate_callee (f := 59) rfl ?_); refine goesL_ (some 32) rfl rfl Tryd.func59 (by kernel_rfl) rfl #[.int .i64 a0_1, .int .i64 a1_1] rfl (by (try simp only [List.map_toArray, List.map_cons, List.map_nil]); first | done | rfl | (simp only [List.length_drop, List.length_take]; rfl)) ?_; (with_reducible refine (value_times.calls a0_1 a1_1 t169 t170 _ A19.out).mono ?_); rintro e w104 ⟨rfl, hb⟩; refine ⟨_, rfl, ?_⟩; have n0_ := Aside0.mk (blk_below (bk BK164.out) hb); have n1_ := Aside0.mk (blk_below (bk BK165.out) hb); have n2_ := Aside0.mk (blk_below (bk BK166.out) hb); have n3_ := Aside0.mk (below_step (by repeat (first | (with_reducible first | exact HB.out | apply below_alloc | apply pw_below_drewN | apply below_drew1 | refine below_set ?_ (Aside0.out (by assumption))) | exact HB.out)) hb); clear BK164; clear BK165; clear BK166; clear HB; have BK164 := n0_; have BK165 := n1_; have BK166 := n2_; have HB := n3_; clear n0_ n1_ n2_ n3_; (try clear hb); (try clear hb2); (try clear hk); (try clear hi)) | ((with_reducible refine gate_dst (N := 8) rfl ?_); refine box_event ?hg (N := 8) ?hd (cs := #[.int .i64 0, .int .u64 0]) (t := 49) ?hr ?_; (case hd => rfl); (case hg => rfl); (case hr => first | (go_simp; done) | (go_simp; rfl)); intro gb171 hg w105 hbox hb; have n0_ := Aside0.mk (blk_below (bk BK164.out) hb); have n1_ := Aside0.mk (blk_below (bk BK165.out) hb); have n2_ := Aside0.mk (blk_below (bk BK166.out) hb); have n3_ := Aside0.mk (below_step (by repeat (first | (with_reducible first | exact HB.out | apply below_alloc | apply pw_below_drewN | apply below_drew1 | refine below_set ?_ (Aside0.out (by assumption))) | exact HB.out)) hb); have n4_ := Aside0.mk (hbox); have n5_ := Aside0.mk ((by rw [hg]; exact (below_size (by repeat (first | (with_reducible first | exact HB.out | apply below_alloc | apply pw_below_drewN | apply below_drew1 | refine below_set ?_ (Aside0.out (by assumption))) | exact HB.out))) : w.heap.size ≤ gb171)); have n6_ := Aside0.mk ((by rw [hg]; exact (below_size (by repeat (first | (with_reducible first | exact HB.out | apply below_alloc | apply pw_below_drewN | apply below_drew1 | refine below_set ?_ (Aside0.out (by assumption))) | exact HB.out))) : w.heap.size ≤ gb171)); have n7_ := Aside0.mk ((by rw [hg]; exact Nat.ne_of_lt (blk_lt (g := gb164) (o := .cells #[.int .u8 a0_0, .int .i64 a0_1, .string a0_2] 25 (0, 0)) (bk BK164.out)) : gb164 ≠ gb171)); have n8_ := Aside0.mk ((by rw [hg]; exact Nat.ne_of_gt (blk_lt (g := gb164) (o := .cells #[.int .u8 a0_0, .int .i64 a0_1, .string a0_2] 25 (0, 0)) (bk BK164.out)) : gb171 ≠ gb164)); have n9_ := Aside0.mk ((by rw [hg]; exact Nat.ne_of_lt (blk_lt (g := gb165) (o := .cells #[.int .u8 a1_0, .int .i64 a1_1, .string a1_2] 25 (0, 0)) (bk BK165.out)) : gb165 ≠ gb171)); have n10_ := Aside0.mk ((by rw [hg]; exact Nat.ne_of_gt (blk_lt (g := gb165) (o := .cells #[.int .u8 a1_0, .int .i64 a1_1, .string a1_2] 25 (0, 0)) (bk BK165.out)) : gb171 ≠ gb165)); have n11_ := Aside0.mk ((by rw [hg]; exact Nat.ne_of_lt (blk_lt (g := gb166) (o := .cells #[.int .u8 0, .int .i64 0, .string (⟨#[]⟩ : ByteArray)] 25 (0, 0)) (bk BK166.out)) : gb166 ≠ gb171)); have n12_ := Aside0.mk ((by rw [hg]; exact Nat.ne_of_gt (blk_lt (g := gb166) (o := .cells #[.int .u8 0, .int .i64 0, .string (⟨#[]⟩ : ByteArray)] 25 (0, 0)) (bk BK166.out)) : gb171 ≠ gb166)); clear BK164; clear BK165; clear BK166; clear HB; have BK164 := n0_; have BK165 := n1_; have BK166 := n2_; have HB := n3_; have BK171 := n4_; have GW171 := n5_; have GE171 := n6_; have NB164_171 := n7_; have NB171_164 := n8_; have NB165_171 := n9_; have NB171_165 := n10_; have NB166_171 := n11_; have NB171_166 := n12_; clear n0_ n1_ n2_ n3_ n4_ n5_ n6_ n7_ n8_ n9_ n10_ n11_ n12_; clear hb hbox hg; have hnb106 := NB171_164.out; have hnc106 := NB164_171.out; have hnb107 := NB171_165.out; have hnc107 := NB165_171.out; have hnb108 := NB171_166.out; have hnc108 := NB166_171.out; have hcz109_0 : w105.cell? ⟨gb171, 0, none⟩ = some (.int .i64 0) := (blk_cell BK171.out 0).trans rfl; have hcz109_1 : w105.cell? ⟨gb171, 1, none⟩ = some (.int .u64 0) := (blk_cell BK171.out 1).trans rfl; have hfz109_0 := blk_frozen BK171.out 0; have hfz109_1 := blk_frozen BK171.out 1; have hcz110_0 : w105.cell? ⟨gb164, 0, none⟩ = some (.int .u8 a0_0) := (blk_cell BK164.out 0).trans rfl; have hcz110_1 : w105.cell? ⟨gb164, 1, none⟩ = some (.int .i64 a0_1) := (blk_cell BK164.out 1).trans rfl; have hcz110_2 : w105.cell? ⟨gb164, 2, none⟩ = some (.string a0_2) := (blk_cell BK164.out 2).trans rfl; have hfz110_0 := blk_frozen BK164.out 0; have hfz110_1 := blk_frozen BK164.out 1; have hfz110_2 := blk_frozen BK164.out 2; have hcz111_0 : w105.cell? ⟨gb165, 0, none⟩ = some (.int .u8 a1_0) := (blk_cell BK165.out 0).trans rfl; have hcz111_1 : w105.cell? ⟨gb165, 1, none⟩ = some (.int .i64 a1_1) := (blk_cell BK165.out 1).trans rfl; have hcz111_2 : w105.cell? ⟨gb165, 2, none⟩ = some (.string a1_2) := (blk_cell BK165.out 2).trans rfl; have hfz111_0 := blk_frozen BK165.out 0; have hfz111_1 := blk_frozen BK165.out 1; have hfz111_2 := blk_frozen BK165.out 2) | ((with_reducible refine gate_callee (f := 60) rfl ?_); refine goesL_ (some 40) rfl rfl Tryd.func60 (by kernel_rfl) rfl #[.agg #[.int .i64 t169, .int .u64 t170], .int .u8 3] rfl (by (try simp only [List.map_toArray, List.map_cons, List.map_nil]); first | done | rfl | (simp only [List.length_drop, List.length_take]; rfl)) ?_; (with_reducible refine (vw_told.calls t169 t170 3 t176 t177 t178 t179 _ A98.out).mono ?_); rintro e w112 ⟨rfl, hb⟩; refine ⟨_, rfl, ?_⟩; have n0_ := Aside0.mk (blk_below (g := gb164) (o := .cells #[.int .u8 a0_0, .int .i64 a0_1, .string a0_2] 25 (0, 0)) (by (with_reducible repeat (first | refine blk_drewN ?_ _ | refine blk_drew ?_ | refine blk_alloc ?_ _ | refine blk_far ?_ NB164_171.out _)); exact BK164.out) hb); have n1_ := Aside0.mk (blk_below (g := gb165) (o := .cells #[.int .u8 a1_0, .int .i64 a1_1, .string a1_2] 25 (0, 0)) (by (with_reducible repeat (first | refine blk_drewN ?_ _ | refine blk_drew ?_ | refine blk_alloc ?_ _ | refine blk_far ?_ NB165_171.out _)); exact BK165.out) hb); have n2_ := Aside0.mk (blk_below (g := gb166) (o := .cells #[.int .u8 0, .int .i64 0, .string (⟨#[]⟩ : ByteArray)] 25 (0, 0)) (by (with_reducible repeat (first | refine blk_drewN ?_ _ | refine blk_drew ?_ | refine blk_alloc ?_ _ | refine blk_far ?_ NB166_171.out _)); exact BK166.out) hb); have n3_ := Aside0.mk (blk_below (g := gb171) (o := .cells #[.int .i64 t169, .int .u64 t170] 49 (0, 0)) (by (with_reducible repeat first | apply blk_drewN | apply blk_drew | apply blk_alloc); refine blk_put (cs := #[.int .i64 t169, .int .u64 0]) ?_ 1 _ rfl; refine blk_put (cs := #[.int .i64 0, .int .u64 0]) ?_ 0 _ rfl; (with_reducible repeat first | apply blk_drewN | apply blk_drew | apply blk_alloc); exact BK171.out) hb); have n4_ := Aside0.mk (below_step (by repeat (first | (with_reducible first | exact HB.out | apply below_alloc | apply pw_below_drewN | apply below_drew1 | refine below_set ?_ (Aside0.out (by assumption))) | exact HB.out)) hb); clear BK164; clear BK165; clear BK166; clear BK171; clear HB; have BK164 := n0_; have BK165 := n1_; have BK166 := n2_; have BK171 := n3_; have HB := n4_; clear n0_ n1_ n2_ n3_ n4_; (try clear hb); (try clear hb2); (try clear hk); (try clear hi); have hcz113_0 : w112.cell? ⟨gb166, 0, none⟩ = some (.int .u8 0) := (blk_cell BK166.out 0).trans rfl; have hcz113_1 : w112.cell? ⟨gb166, 1, none⟩ = some (.int .i64 0) := (blk_cell BK166.out 1).trans rfl; have hcz113_2 : w112.cell? ⟨gb166, 2, none⟩ = some (.string (⟨#[]⟩ : ByteArray)) := (blk_cell BK166.out 2).trans rfl; have hfz113_0 := blk_frozen BK166.out 0; have hfz113_1 := blk_frozen BK166.out 1; have hfz113_2 := blk_frozen BK166.out 2))
     refine bodyPost_ret (results_ct rfl _ _ gb166 25 #[.int .u8 t176, .int .i64 t177, .string t178] (0, 0) _ rfl (by (with_reducible repeat first | apply blk_drewN | apply blk_drew | apply blk_alloc); refine blk_put (cs := #[.int .u8 t176, .int .i64 t177, .string (⟨#[]⟩ : ByteArray)]) ?_ 2 _ rfl; (with_reducible repeat first | apply blk_drewN | apply blk_drew | apply blk_alloc); refine blk_put (cs := #[.int .u8 t176, .int .i64 0, .string (⟨#[]⟩ : ByteArray)]) ?_ 1 _ rfl; (with_reducible repeat first | apply blk_drewN | apply blk_drew | apply blk_alloc); refine blk_put (cs := #[.int .u8 0, .int .i64 0, .string (⟨#[]⟩ : ByteArray)]) ?_ 0 _ rfl; (with_reducible repeat first | apply blk_drewN | apply blk_drew | apply blk_alloc); exact BK166.out) Tryd.underlying25 rfl (by kernel_rfl)) rfl ?_
     exact ⟨by first | rfl | (simp [errW_none, errW_some] <;> rfl) | (simp [*, errW_none, errW_some] <;> rfl), by repeat (first | (with_reducible first | exact HB.out | apply below_alloc | apply pw_below_drewN | apply below_drew1 | refine below_set ?_ (Aside0.out (by assumption))) | exact HB.out)⟩
end Go.Proofs.YtbodlnoipkommaaDoor.Q
namespace Go.Proofs.YtbodlnoipkommaaDoor.Pc
open Go.RowKit Go.Proofs.YtbodlnoipkommaaDoor.Q Go.Proofs.YtbodlnoipkommaaDoor.We Go.Proofs.YtbodlnoipkommaaDoor.Wf Go.Proofs.YtbodlnoipkommaaDoor.Wg Go.Proofs.YtbodlnoipkommaaDoor.Wh Go.Proofs.YtbodlnoipkommaaDoor.Wj Go.Proofs.YtbodlnoipkommaaDoor.Wk Go.Proofs.YtbodlnoipkommaaDoor.Wl Go.Proofs.YtbodlnoipkommaaDoor.Wo Go.Proofs.YtbodlnoipkommaaDoor.Wp Go.Proofs.YtbodlnoipkommaaDoor.Wq Go.Proofs.YtbodlnoipkommaaDoor.Ws Go.Proofs.YtbodlnoipkommaaDoor.Wt Go.Proofs.YtbodlnoipkommaaDoor.Pa Go.Proofs.YtbodlnoipkommaaDoor.Pb Go.Proofs.YtbodlnoipkommaaDoorW.PrintWords Go.Proofs.YtbodlnoipkommaaDoorW.PrintLast Go.Proofs.YtbodlnoipkommaaDoorW.PrintMore
def absI (p : Int) : Int := if p < 0 then -p else p
def rnd (A : Int) : Int := if A % 10000 > 5000 ∨ A % 10000 = 5000 ∧ A / 10000 % 2 = 1 then A / 10000 + 1 else A / 10000
def mulR (k0 n0 : Int) (s0 : ByteArray) (k1 n1 : Int) (s1 : ByteArray) : V4 :=
  if (askedR k0 n0 s0 k1 n1 s1).2 ≠ 0 ∨ (askedR k0 n0 s0 k1 n1 s1).1 = true then (0, 0, ⟨#[]⟩, (askedR k0 n0 s0 k1 n1 s1).2) else
  if k0 ≠ k1 then toldR 3 (n0 * n1) else
  if k0 = 2 then toldR 2 (n0 * n1) else toldR 3 (if n0 * n1 < 0 then -rnd (absI (n0 * n1)) else rnd (absI (n0 * n1)))
theorem abs_prod (a b : Int) (ha : I64 a) (hb : I64 b) : 0 ≤ absI (a * b) ∧ absI (a * b) ≤ 85070591730234615865843651857942052864 := by
  have h := prod_le _ _ (abs_le a ha) (abs_le b hb)
  rw [abs_mul'] at h
  unfold absI
  split at h <;> split <;> omega
theorem j2_f (j : Nat) (neg : Bool) (Q : Int) (h0 : 0 ≤ Q) (h1 : Q ≤ 85070591730234615865843651857942052865) :
    value_Mul.j2 (j + 1) neg (hi Q) (lo Q) = some (toldR 3 (if neg = true then -Q else Q)) := by
  have i1 : I128 Q := ⟨by omega, by omega⟩
  have i2 : I128 (-Q) := ⟨by omega, by omega⟩
  rw [value_Mul.j2]
  cases neg
  · simp only [Bool.false_eq_true, if_false]
    rw [told_fR _ _ i1]; rfl
  · simp only [if_true]
    rw [minus_f Q i1 i2]
    simp only [Option.bind_some]
    rw [told_fR _ _ i2]; rfl
theorem one_f : value_of.f 1 = some (hi 1, lo 1) := of_f 1 (by decide)
theorem j1m_f (j : Nat) (neg up : Bool) (Q : Int) (h0 : 0 ≤ Q) (h1 : Q ≤ 85070591730234615865843651857942052864) :
    value_Mul.j1 (j + 2) neg up (hi Q) (lo Q) = some (toldR 3 (if neg = true then -(if up = true then Q + 1 else Q) else (if up = true then Q + 1 else Q))) := by
  rw [value_Mul.j1]
  cases up
  · simp only [Bool.false_eq_true, if_false]
    exact j2_f j neg Q h0 (by omega)
  · simp only [if_true]
    rw [one_f]
    simp only [Option.bind_some]
    rw [plus_f Q 1 ⟨by omega, by omega⟩ ⟨by omega, by omega⟩ ⟨by omega, by omega⟩]
    simp only [Option.bind_some]
    exact j2_f j neg (Q + 1) (by omega) (by omega)
theorem div_f (A : Int) (h0 : 0 ≤ A) (h1 : A ≤ 85070591730234615865843651857942052864) :
    bits_Div64.f (Int.tmod (hi A) 10000) (lo A) 10000 = some (lo (A / 10000), A % 10000) ∧ wrap64 (IntKind.u64.wrap (Int.tdiv (hi A) 10000)) = hi (A / 10000) := by
  have g0 : 0 ≤ hi A := by unfold hi; omega
  have g1 : hi A < 9223372036854775808 := by unfold hi; omega
  have l0 := lo_word A
  rw [Int.tmod_eq_emod_of_nonneg g0, Int.tdiv_eq_ediv_of_nonneg g0]
  have hA : A = hi A * 18446744073709551616 + lo A := by unfold hi lo; omega
  constructor
  · unfold bits_Div64.f
    rw [if_pos ⟨⟨by omega, by omega⟩, l0, rfl⟩]
    obtain ⟨l0, l1⟩ := l0
    have e1 : (hi A % 10000 * 18446744073709551616 + lo A) / 10000 = lo (A / 10000) := by
      show _ = A / 10000 % 18446744073709551616
      generalize hi A = h at *
      generalize lo A = l at *
      omega
    have e2 : (hi A % 10000 * 18446744073709551616 + lo A) % 10000 = A % 10000 := by
      generalize hi A = h at *
      generalize lo A = l at *
      omega
    rw [e1, e2]
  · have e : hi A / 10000 = hi (A / 10000) := by
      unfold hi; omega
    rw [IntKind.wrap_u64, ← e]
    generalize hi A = h at *
    unfold wrap64; omega
theorem mulj0_f (j : Nat) (e : Int) (k0 n0 : Int) (s0 : ByteArray) (k1 n1 : Int) (s1 : ByteArray) (h0 : I64 n0) (h1 : I64 n1) :
    value_Mul.j0 (j + 3) e false k0 n0 s0 k1 n1 s1 = some (if k0 ≠ k1 then toldR 3 (n0 * n1) else if k0 = 2 then toldR 2 (n0 * n1) else toldR 3 (if n0 * n1 < 0 then -rnd (absI (n0 * n1)) else rnd (absI (n0 * n1)))) := by
  have hp := abs_prod n0 n1 h0 h1
  have i1 : I128 (n0 * n1) ∧ I128 (-(n0 * n1)) := by
    unfold absI at hp
    constructor <;> (unfold I128; split at hp <;> omega)
  rw [value_Mul.j0]
  simp only [Bool.false_eq_true, if_false]
  rw [times_f n0 n1 h0 h1]
  simp only [Option.bind_some]
  by_cases hk : k0 = k1
  · rw [if_pos hk]
    simp only [ne_eq, hk, not_true, if_false]
    rw [← hk]
    by_cases h2 : k0 = 2
    · rw [if_pos h2, if_pos h2, told_fR _ _ i1.1]; rfl
    · rw [if_neg h2, if_neg h2, size_f _ i1.1 i1.2]
      simp only [Option.bind_some]
      change (bits_Div64.f (Int.tmod (hi (absI (n0 * n1))) 10000) (lo (absI (n0 * n1))) 10000).bind _ = _
      have hd := div_f _ hp.1 hp.2
      change (bits_Div64.f (Int.tmod (hi (absI (n0 * n1))) 10000) (lo (absI (n0 * n1))) 10000).bind (fun bt200 => if bt200.2 > 5000 then value_Mul.j1 (j + 2) (decide (n0 * n1 < 0)) true (wrap64 (IntKind.u64.wrap (Int.tdiv (hi (absI (n0 * n1))) 10000))) bt200.1 else if bt200.2 = 5000 then value_Mul.j1 (j + 2) (decide (n0 * n1 < 0)) ((Int.tmod bt200.1 2) == 1) (wrap64 (IntKind.u64.wrap (Int.tdiv (hi (absI (n0 * n1))) 10000))) bt200.1 else value_Mul.j1 (j + 2) (decide (n0 * n1 < 0)) false (wrap64 (IntKind.u64.wrap (Int.tdiv (hi (absI (n0 * n1))) 10000))) bt200.1) = _
      rw [hd.1, hd.2]
      simp only [Option.bind_some]
      generalize n0 * n1 = p at *
      generalize absI p = A at *
      have q0 : 0 ≤ A / 10000 := by omega
      have q1 : A / 10000 ≤ 85070591730234615865843651857942052864 := by omega
      have hlo : Int.tmod (lo (A / 10000)) 2 = A / 10000 % 2 := by
        rw [Int.tmod_eq_emod_of_nonneg (lo_word _).1]; unfold lo; omega
      rw [j1m_f j _ _ _ q0 q1, j1m_f j _ _ _ q0 q1, j1m_f j _ _ _ q0 q1, hlo]
      simp only [decide_eq_true_eq, if_true, Bool.false_eq_true, if_false, beq_iff_eq]
      unfold rnd
      by_cases c1 : A % 10000 > 5000
      · simp only [c1, if_true, true_or]
      · by_cases c2 : A % 10000 = 5000
        · by_cases c3 : A / 10000 % 2 = 1
          · simp only [c2, c3, if_true, true_and, or_true, ite_self]
          · simp only [c2, c3, if_true, if_false, true_and, or_false]
            rfl
        · simp only [c1, c2, if_false, false_and, or_self]
  · rw [if_neg hk, told_fR _ _ i1.1]
    simp only [ne_eq, hk, not_false_eq_true, if_true]; rfl
theorem mul_f (j : Nat) (k0 n0 : Int) (s0 : ByteArray) (k1 n1 : Int) (s1 : ByteArray) (h0 : I64 n0) (h1 : I64 n1) :
    value_Mul.f (j + 3) k0 n0 s0 k1 n1 s1 = some (mulR k0 n0 s0 k1 n1 s1) := by
  unfold value_Mul.f mulR value_asked.f
  simp only [Option.bind_some]
  have hj : ∀ e, value_Mul.j0 (j + 3) e true k0 n0 s0 k1 n1 s1 = some (0, 0, ⟨#[]⟩, e) := fun e => by rw [value_Mul.j0]; rfl
  by_cases he : (askedR k0 n0 s0 k1 n1 s1).2 = 0
  · rw [if_pos he]
    cases hb : (askedR k0 n0 s0 k1 n1 s1).1
    · rw [mulj0_f j _ k0 n0 s0 k1 n1 s1 h0 h1]
      simp only [he, ne_eq, not_true, Bool.false_eq_true, or_self, if_false]
    · rw [hj]
      simp only [or_true, if_true]
  · rw [if_neg he, hj, if_pos (Or.inl he)]
end Go.Proofs.YtbodlnoipkommaaDoor.Pc
namespace Go.Proofs.YtbodlnoipkommaaDoor.Ra
def Dig (x : Int) : Prop := 0 ≤ x ∧ x < 4294967296
instance (x : Int) : Decidable (Dig x) := by unfold Dig; infer_instance
def Digs (a b c d e : Int) : Prop := Dig a ∧ Dig b ∧ Dig c ∧ Dig d ∧ Dig e
instance (a b c d e : Int) : Decidable (Digs a b c d e) := by unfold Digs; infer_instance
def num (a0 a1 a2 a3 a4 : Int) : Int := a0 + a1 * 4294967296 + a2 * 18446744073709551616 + a3 * 79228162514264337593543950336 + a4 * 340282366920938463463374607431768211456
def d0 (n : Int) : Int := n % 4294967296
def d1 (n : Int) : Int := n / 4294967296 % 4294967296
def d2 (n : Int) : Int := n / 18446744073709551616 % 4294967296
def d3 (n : Int) : Int := n / 79228162514264337593543950336 % 4294967296
def d4 (n : Int) : Int := n / 340282366920938463463374607431768211456 % 4294967296
theorem five_eq (n o0 o1 o2 o3 o4 c : Int) (lo0 : 0 ≤ o0) (uo0 : o0 < 4294967296) (lo1 : 0 ≤ o1) (uo1 : o1 < 4294967296) (lo2 : 0 ≤ o2) (uo2 : o2 < 4294967296) (lo3 : 0 ≤ o3) (uo3 : o3 < 4294967296) (lo4 : 0 ≤ o4) (uo4 : o4 < 4294967296) (h : n = num o0 o1 o2 o3 o4 + c * 1461501637330902918203684832716283019655932542976) : o0 = d0 n ∧ o1 = d1 n ∧ o2 = d2 n ∧ o3 = d3 n ∧ o4 = d4 n := by
  unfold num at h
  unfold d0 d1 d2 d3 d4
  refine ⟨?_, ?_, ?_, ?_, ?_⟩ <;> omega
end Go.Proofs.YtbodlnoipkommaaDoor.Ra
namespace Go.Proofs.YtbodlnoipkommaaDoor.Rb
open Go.Proofs.YtbodlnoipkommaaDoor.Ra
open Go.RowKit Go.Proofs.YtbodlnoipkommaaDoorW.PrintWords Go.Proofs.YtbodlnoipkommaaDoorW.PrintLast Go.Proofs.YtbodlnoipkommaaDoorW.PrintMore
theorem set_ok {w W : World} (h : Below w.heap.size w W) {b o : Nat} (hb : w.heap.size ≤ b) (v : Value) : Below w.heap.size w (W.setCell ⟨b, o, none⟩ v) := h.setCell hb v
theorem drew_ok {B : Nat} {a w : World} (h : Below B a w) (n : Nat) : Below B a (w.drewN n) := h.trans ⟨rfl, rfl, rfl, Nat.le_refl _, fun _ _ => rfl⟩
set_option maxRecDepth 100000 in
set_option maxHeartbeats 1000000 in
theorem plus_walk (a0 a1 a2 a3 a4 b0 b1 b2 b3 b4 s0 s1 s2 s3 s4 o0 o1 o2 o3 o4 c1 c2 c3 c4 c5 : Int) (w : World) (la0 : 0 ≤ a0) (ua0 : a0 < 4294967296) (la1 : 0 ≤ a1) (ua1 : a1 < 4294967296) (la2 : 0 ≤ a2) (ua2 : a2 < 4294967296) (la3 : 0 ≤ a3) (ua3 : a3 < 4294967296) (la4 : 0 ≤ a4) (ua4 : a4 < 4294967296) (lb0 : 0 ≤ b0) (ub0 : b0 < 4294967296) (lb1 : 0 ≤ b1) (ub1 : b1 < 4294967296) (lb2 : 0 ≤ b2) (ub2 : b2 < 4294967296) (lb3 : 0 ≤ b3) (ub3 : b3 < 4294967296) (lb4 : 0 ≤ b4) (ub4 : b4 < 4294967296) (e0 : a0 + b0 = s0) (ls0 : 0 ≤ s0) (us0 : s0 < 18446744073709551616) (f0 : s0 % 4294967296 = o0) (g0 : s0 / 4294967296 = c1) (lc1 : 0 ≤ c1) (uc1 : c1 < 4294967296) (e1 : a1 + b1 + c1 = s1) (ls1 : 0 ≤ s1) (us1 : s1 < 18446744073709551616) (f1 : s1 % 4294967296 = o1) (g1 : s1 / 4294967296 = c2) (lc2 : 0 ≤ c2) (uc2 : c2 < 4294967296) (e2 : a2 + b2 + c2 = s2) (ls2 : 0 ≤ s2) (us2 : s2 < 18446744073709551616) (f2 : s2 % 4294967296 = o2) (g2 : s2 / 4294967296 = c3) (lc3 : 0 ≤ c3) (uc3 : c3 < 4294967296) (e3 : a3 + b3 + c3 = s3) (ls3 : 0 ≤ s3) (us3 : s3 < 18446744073709551616) (f3 : s3 % 4294967296 = o3) (g3 : s3 / 4294967296 = c4) (lc4 : 0 ≤ c4) (uc4 : c4 < 4294967296) (e4 : a4 + b4 + c4 = s4) (ls4 : 0 ≤ s4) (us4 : s4 < 18446744073709551616) (f4 : s4 % 4294967296 = o4) (g4 : s4 / 4294967296 = c5) (lc5 : 0 ≤ c5) (uc5 : c5 < 4294967296) :
    Calls Tryd.prog 69 #[.agg #[.int .u64 a0, .int .u64 a1, .int .u64 a2, .int .u64 a3, .int .u64 a4], .agg #[.int .u64 b0, .int .u64 b1, .int .u64 b2, .int .u64 b3, .int .u64 b4]] w fun e w' => e = .returned (.agg #[.int .u64 o0, .int .u64 o1, .int .u64 o2, .int .u64 o3, .int .u64 o4]) ∧ Below w.heap.size w w' := by
  go_enter Tryd.func69, Tryd.ntmps69
  go_wp2_with fail
  refine wp_loop_rounds 6 ?_
  rw [rounds_succ]
  go_wp2_with fail
  go_quiet (fail)
  go_wp2_with fail
  rw [rounds_succ]
  go_wp2_with fail
  go_quiet (fail)
  go_wp2_with fail
  rw [rounds_succ]
  go_wp2_with fail
  go_quiet (fail)
  go_wp2_with fail
  rw [rounds_succ]
  go_wp2_with fail
  go_quiet (fail)
  go_wp2_with fail
  rw [rounds_succ]
  go_wp2_with fail
  go_quiet (fail)
  go_wp2_with fail
  rw [rounds_succ]
  go_wp2_with fail
  simp [bodyPost, results, Tryd.results69, go_sem]
  try refine ⟨by assumption, ?_⟩
  repeat' (first | with_reducible exact Below.refl _ _ | with_reducible refine drew_ok ?_ _ | with_reducible refine set_ok ?_ ?_ _ | with_reducible refine below_alloc ?_ _)
  all_goals first | omega | trace_state
def rf17_plus.f (a0 a1 a2 a3 a4 b0 b1 b2 b3 b4 : Int) : Option (Int × Int × Int × Int × Int) :=
  if Digs a0 a1 a2 a3 a4 ∧ Digs b0 b1 b2 b3 b4 then some (d0 (num a0 a1 a2 a3 a4 + num b0 b1 b2 b3 b4), d1 (num a0 a1 a2 a3 a4 + num b0 b1 b2 b3 b4), d2 (num a0 a1 a2 a3 a4 + num b0 b1 b2 b3 b4), d3 (num a0 a1 a2 a3 a4 + num b0 b1 b2 b3 b4), d4 (num a0 a1 a2 a3 a4 + num b0 b1 b2 b3 b4)) else none
set_option maxRecDepth 100000 in
set_option maxHeartbeats 1000000 in
theorem rf17_plus.calls (a0 a1 a2 a3 a4 b0 b1 b2 b3 b4 : Int) (r1 r2 r3 r4 r5 : Int) (w : World) (h : rf17_plus.f a0 a1 a2 a3 a4 b0 b1 b2 b3 b4 = some (r1, r2, r3, r4, r5)) :
    Calls Tryd.prog 69 #[.agg #[.int .u64 a0, .int .u64 a1, .int .u64 a2, .int .u64 a3, .int .u64 a4], .agg #[.int .u64 b0, .int .u64 b1, .int .u64 b2, .int .u64 b3, .int .u64 b4]] w fun e w' => e = .returned (.agg #[.int .u64 r1, .int .u64 r2, .int .u64 r3, .int .u64 r4, .int .u64 r5]) ∧ Below w.heap.size w w' := by
  unfold rf17_plus.f at h
  by_cases hc : Digs a0 a1 a2 a3 a4 ∧ Digs b0 b1 b2 b3 b4
  case neg => rw [if_neg hc] at h; cases h
  rw [if_pos hc] at h
  injection h with h
  simp only [Prod.mk.injEq] at h
  obtain ⟨q1, q2, q3, q4, q5⟩ := h
  obtain ⟨⟨⟨la0, ua0⟩, ⟨la1, ua1⟩, ⟨la2, ua2⟩, ⟨la3, ua3⟩, la4, ua4⟩, ⟨lb0, ub0⟩, ⟨lb1, ub1⟩, ⟨lb2, ub2⟩, ⟨lb3, ub3⟩, lb4, ub4⟩ := hc
  obtain ⟨s0, e0⟩ : ∃ s, a0 + b0 = s := ⟨_, rfl⟩
  obtain ⟨o0, f0⟩ : ∃ o, s0 % 4294967296 = o := ⟨_, rfl⟩
  obtain ⟨c1, g0⟩ : ∃ c, s0 / 4294967296 = c := ⟨_, rfl⟩
  have lc1 : 0 ≤ c1 := by omega
  have uc1 : c1 ≤ 1 := by omega
  obtain ⟨s1, e1⟩ : ∃ s, a1 + b1 + c1 = s := ⟨_, rfl⟩
  obtain ⟨o1, f1⟩ : ∃ o, s1 % 4294967296 = o := ⟨_, rfl⟩
  obtain ⟨c2, g1⟩ : ∃ c, s1 / 4294967296 = c := ⟨_, rfl⟩
  have lc2 : 0 ≤ c2 := by omega
  have uc2 : c2 ≤ 1 := by omega
  obtain ⟨s2, e2⟩ : ∃ s, a2 + b2 + c2 = s := ⟨_, rfl⟩
  obtain ⟨o2, f2⟩ : ∃ o, s2 % 4294967296 = o := ⟨_, rfl⟩
  obtain ⟨c3, g2⟩ : ∃ c, s2 / 4294967296 = c := ⟨_, rfl⟩
  have lc3 : 0 ≤ c3 := by omega
  have uc3 : c3 ≤ 1 := by omega
  obtain ⟨s3, e3⟩ : ∃ s, a3 + b3 + c3 = s := ⟨_, rfl⟩
  obtain ⟨o3, f3⟩ : ∃ o, s3 % 4294967296 = o := ⟨_, rfl⟩
  obtain ⟨c4, g3⟩ : ∃ c, s3 / 4294967296 = c := ⟨_, rfl⟩
  have lc4 : 0 ≤ c4 := by omega
  have uc4 : c4 ≤ 1 := by omega
  obtain ⟨s4, e4⟩ : ∃ s, a4 + b4 + c4 = s := ⟨_, rfl⟩
  obtain ⟨o4, f4⟩ : ∃ o, s4 % 4294967296 = o := ⟨_, rfl⟩
  obtain ⟨c5, g4⟩ : ∃ c, s4 / 4294967296 = c := ⟨_, rfl⟩
  have lc5 : 0 ≤ c5 := by omega
  have uc5 : c5 ≤ 1 := by omega
  have hf := five_eq (num a0 a1 a2 a3 a4 + num b0 b1 b2 b3 b4) o0 o1 o2 o3 o4 (c5) (by omega) (by omega) (by omega) (by omega) (by omega) (by omega) (by omega) (by omega) (by omega) (by omega) (by simp only [num]; omega)
  obtain ⟨p0, p1, p2, p3, p4⟩ := hf
  rw [← p0] at q1; rw [← p1] at q2; rw [← p2] at q3; rw [← p3] at q4; rw [← p4] at q5
  subst q1 q2 q3 q4 q5
  exact plus_walk a0 a1 a2 a3 a4 b0 b1 b2 b3 b4 s0 s1 s2 s3 s4 o0 o1 o2 o3 o4 c1 c2 c3 c4 c5 w la0 ua0 la1 ua1 la2 ua2 la3 ua3 la4 ua4 lb0 ub0 lb1 ub1 lb2 ub2 lb3 ub3 lb4 ub4 e0 (by omega) (by omega) f0 g0 lc1 (by omega) e1 (by omega) (by omega) f1 g1 lc2 (by omega) e2 (by omega) (by omega) f2 g2 lc3 (by omega) e3 (by omega) (by omega) f3 g3 lc4 (by omega) e4 (by omega) (by omega) f4 g4 lc5 (by omega)
set_option maxRecDepth 100000 in
set_option maxHeartbeats 1000000 in
theorem minus_walk (a0 a1 a2 a3 a4 b0 b1 b2 b3 b4 s0 s1 s2 s3 s4 o0 o1 o2 o3 o4 c1 c2 c3 c4 c5 : Int) (w : World) (la0 : 0 ≤ a0) (ua0 : a0 < 4294967296) (la1 : 0 ≤ a1) (ua1 : a1 < 4294967296) (la2 : 0 ≤ a2) (ua2 : a2 < 4294967296) (la3 : 0 ≤ a3) (ua3 : a3 < 4294967296) (la4 : 0 ≤ a4) (ua4 : a4 < 4294967296) (lb0 : 0 ≤ b0) (ub0 : b0 < 4294967296) (lb1 : 0 ≤ b1) (ub1 : b1 < 4294967296) (lb2 : 0 ≤ b2) (ub2 : b2 < 4294967296) (lb3 : 0 ≤ b3) (ub3 : b3 < 4294967296) (lb4 : 0 ≤ b4) (ub4 : b4 < 4294967296) (e0 : a0 + 4294967296 - b0 = s0) (ls0 : 0 ≤ s0) (us0 : s0 < 18446744073709551616) (f0 : s0 % 4294967296 = o0) (g0 : 1 - s0 / 4294967296 = c1) (lc1 : 0 ≤ c1) (uc1 : c1 ≤ 1) (e1 : a1 + 4294967296 - b1 - c1 = s1) (ls1 : 0 ≤ s1) (us1 : s1 < 18446744073709551616) (f1 : s1 % 4294967296 = o1) (g1 : 1 - s1 / 4294967296 = c2) (lc2 : 0 ≤ c2) (uc2 : c2 ≤ 1) (e2 : a2 + 4294967296 - b2 - c2 = s2) (ls2 : 0 ≤ s2) (us2 : s2 < 18446744073709551616) (f2 : s2 % 4294967296 = o2) (g2 : 1 - s2 / 4294967296 = c3) (lc3 : 0 ≤ c3) (uc3 : c3 ≤ 1) (e3 : a3 + 4294967296 - b3 - c3 = s3) (ls3 : 0 ≤ s3) (us3 : s3 < 18446744073709551616) (f3 : s3 % 4294967296 = o3) (g3 : 1 - s3 / 4294967296 = c4) (lc4 : 0 ≤ c4) (uc4 : c4 ≤ 1) (e4 : a4 + 4294967296 - b4 - c4 = s4) (ls4 : 0 ≤ s4) (us4 : s4 < 18446744073709551616) (f4 : s4 % 4294967296 = o4) (g4 : 1 - s4 / 4294967296 = c5) (lc5 : 0 ≤ c5) (uc5 : c5 ≤ 1) :
    Calls Tryd.prog 76 #[.agg #[.int .u64 a0, .int .u64 a1, .int .u64 a2, .int .u64 a3, .int .u64 a4], .agg #[.int .u64 b0, .int .u64 b1, .int .u64 b2, .int .u64 b3, .int .u64 b4]] w fun e w' => e = .returned (.agg #[.int .u64 o0, .int .u64 o1, .int .u64 o2, .int .u64 o3, .int .u64 o4]) ∧ Below w.heap.size w w' := by
  go_enter Tryd.func76, Tryd.ntmps76
  go_wp2_with fail
  refine wp_loop_rounds 6 ?_
  rw [rounds_succ]
  go_wp2_with fail
  go_quiet (fail)
  go_wp2_with fail
  rw [rounds_succ]
  go_wp2_with fail
  go_quiet (fail)
  go_wp2_with fail
  rw [rounds_succ]
  go_wp2_with fail
  go_quiet (fail)
  go_wp2_with fail
  rw [rounds_succ]
  go_wp2_with fail
  go_quiet (fail)
  go_wp2_with fail
  rw [rounds_succ]
  go_wp2_with fail
  go_quiet (fail)
  go_wp2_with fail
  rw [rounds_succ]
  go_wp2_with fail
  simp [bodyPost, results, Tryd.results76, go_sem]
  try refine ⟨by assumption, ?_⟩
  repeat' (first | with_reducible exact Below.refl _ _ | with_reducible refine drew_ok ?_ _ | with_reducible refine set_ok ?_ ?_ _ | with_reducible refine below_alloc ?_ _)
  all_goals first | omega | trace_state
def rf17_minus.f (a0 a1 a2 a3 a4 b0 b1 b2 b3 b4 : Int) : Option (Int × Int × Int × Int × Int) :=
  if Digs a0 a1 a2 a3 a4 ∧ Digs b0 b1 b2 b3 b4 then some (d0 (num a0 a1 a2 a3 a4 - num b0 b1 b2 b3 b4), d1 (num a0 a1 a2 a3 a4 - num b0 b1 b2 b3 b4), d2 (num a0 a1 a2 a3 a4 - num b0 b1 b2 b3 b4), d3 (num a0 a1 a2 a3 a4 - num b0 b1 b2 b3 b4), d4 (num a0 a1 a2 a3 a4 - num b0 b1 b2 b3 b4)) else none
set_option maxRecDepth 100000 in
set_option maxHeartbeats 1000000 in
theorem rf17_minus.calls (a0 a1 a2 a3 a4 b0 b1 b2 b3 b4 : Int) (r1 r2 r3 r4 r5 : Int) (w : World) (h : rf17_minus.f a0 a1 a2 a3 a4 b0 b1 b2 b3 b4 = some (r1, r2, r3, r4, r5)) :
    Calls Tryd.prog 76 #[.agg #[.int .u64 a0, .int .u64 a1, .int .u64 a2, .int .u64 a3, .int .u64 a4], .agg #[.int .u64 b0, .int .u64 b1, .int .u64 b2, .int .u64 b3, .int .u64 b4]] w fun e w' => e = .returned (.agg #[.int .u64 r1, .int .u64 r2, .int .u64 r3, .int .u64 r4, .int .u64 r5]) ∧ Below w.heap.size w w' := by
  unfold rf17_minus.f at h
  by_cases hc : Digs a0 a1 a2 a3 a4 ∧ Digs b0 b1 b2 b3 b4
  case neg => rw [if_neg hc] at h; cases h
  rw [if_pos hc] at h
  injection h with h
  simp only [Prod.mk.injEq] at h
  obtain ⟨q1, q2, q3, q4, q5⟩ := h
  obtain ⟨⟨⟨la0, ua0⟩, ⟨la1, ua1⟩, ⟨la2, ua2⟩, ⟨la3, ua3⟩, la4, ua4⟩, ⟨lb0, ub0⟩, ⟨lb1, ub1⟩, ⟨lb2, ub2⟩, ⟨lb3, ub3⟩, lb4, ub4⟩ := hc
  obtain ⟨s0, e0⟩ : ∃ s, a0 + 4294967296 - b0 = s := ⟨_, rfl⟩
  obtain ⟨o0, f0⟩ : ∃ o, s0 % 4294967296 = o := ⟨_, rfl⟩
  obtain ⟨c1, g0⟩ : ∃ c, 1 - s0 / 4294967296 = c := ⟨_, rfl⟩
  have lc1 : 0 ≤ c1 := by omega
  have uc1 : c1 ≤ 1 := by omega
  obtain ⟨s1, e1⟩ : ∃ s, a1 + 4294967296 - b1 - c1 = s := ⟨_, rfl⟩
  obtain ⟨o1, f1⟩ : ∃ o, s1 % 4294967296 = o := ⟨_, rfl⟩
  obtain ⟨c2, g1⟩ : ∃ c, 1 - s1 / 4294967296 = c := ⟨_, rfl⟩
  have lc2 : 0 ≤ c2 := by omega
  have uc2 : c2 ≤ 1 := by omega
  obtain ⟨s2, e2⟩ : ∃ s, a2 + 4294967296 - b2 - c2 = s := ⟨_, rfl⟩
  obtain ⟨o2, f2⟩ : ∃ o, s2 % 4294967296 = o := ⟨_, rfl⟩
  obtain ⟨c3, g2⟩ : ∃ c, 1 - s2 / 4294967296 = c := ⟨_, rfl⟩
  have lc3 : 0 ≤ c3 := by omega
  have uc3 : c3 ≤ 1 := by omega
  obtain ⟨s3, e3⟩ : ∃ s, a3 + 4294967296 - b3 - c3 = s := ⟨_, rfl⟩
  obtain ⟨o3, f3⟩ : ∃ o, s3 % 4294967296 = o := ⟨_, rfl⟩
  obtain ⟨c4, g3⟩ : ∃ c, 1 - s3 / 4294967296 = c := ⟨_, rfl⟩
  have lc4 : 0 ≤ c4 := by omega
  have uc4 : c4 ≤ 1 := by omega
  obtain ⟨s4, e4⟩ : ∃ s, a4 + 4294967296 - b4 - c4 = s := ⟨_, rfl⟩
  obtain ⟨o4, f4⟩ : ∃ o, s4 % 4294967296 = o := ⟨_, rfl⟩
  obtain ⟨c5, g4⟩ : ∃ c, 1 - s4 / 4294967296 = c := ⟨_, rfl⟩
  have lc5 : 0 ≤ c5 := by omega
  have uc5 : c5 ≤ 1 := by omega
  have hf := five_eq (num a0 a1 a2 a3 a4 - num b0 b1 b2 b3 b4) o0 o1 o2 o3 o4 (-c5) (by omega) (by omega) (by omega) (by omega) (by omega) (by omega) (by omega) (by omega) (by omega) (by omega) (by simp only [num]; omega)
  obtain ⟨p0, p1, p2, p3, p4⟩ := hf
  rw [← p0] at q1; rw [← p1] at q2; rw [← p2] at q3; rw [← p3] at q4; rw [← p4] at q5
  subst q1 q2 q3 q4 q5
  exact minus_walk a0 a1 a2 a3 a4 b0 b1 b2 b3 b4 s0 s1 s2 s3 s4 o0 o1 o2 o3 o4 c1 c2 c3 c4 c5 w la0 ua0 la1 ua1 la2 ua2 la3 ua3 la4 ua4 lb0 ub0 lb1 ub1 lb2 ub2 lb3 ub3 lb4 ub4 e0 (by omega) (by omega) f0 g0 lc1 uc1 e1 (by omega) (by omega) f1 g1 lc2 uc2 e2 (by omega) (by omega) f2 g2 lc3 uc3 e3 (by omega) (by omega) f3 g3 lc4 uc4 e4 (by omega) (by omega) f4 g4 lc5 uc5
end Go.Proofs.YtbodlnoipkommaaDoor.Rb

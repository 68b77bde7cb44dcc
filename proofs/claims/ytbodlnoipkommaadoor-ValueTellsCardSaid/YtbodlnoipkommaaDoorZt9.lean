/- Merged out of this session's texts: Pk, Xr, Xt, Qxf30, Qxf31, Qxf32, Qxf71 -/
import Derived.Test.YtbodlnoipkommaaDoorZt7
import Derived.Test.YtbodlnoipkommaaDoorZt8
import Derived.Test.YtbodlnoipkommaaDoorZt3
import Derived.Deep.RegionHeld3
import Derived.Test.YtbodlnoipkommaaDoorZt4
set_option linter.unusedVariables false
set_option linter.unusedSimpArgs false
namespace Go.Proofs.YtbodlnoipkommaaDoor.Pk
open Go Go.RowKit Go.Proofs.YtbodlnoipkommaaDoor.Q Go.Proofs.YtbodlnoipkommaaDoor.Wh Go.Proofs.YtbodlnoipkommaaDoor.Wk Go.Proofs.YtbodlnoipkommaaDoor.Wp Go.Proofs.YtbodlnoipkommaaDoor.Wq Go.Proofs.YtbodlnoipkommaaDoor.Ws Go.Proofs.YtbodlnoipkommaaDoor.Wt Go.Proofs.YtbodlnoipkommaaDoor.Pf Go.Proofs.YtbodlnoipkommaaDoor.Ph Go.Proofs.YtbodlnoipkommaaDoorW.PrintWords Go.Proofs.YtbodlnoipkommaaDoorW.PrintLast Go.Proofs.YtbodlnoipkommaaDoorW.PrintMore
def bl (l : List UInt8) : ByteArray := ⟨l.toArray⟩
theorem bl_data (l : List UInt8) : (bl l).data.toList = l := rfl
theorem bl_size (l : List UInt8) : (bl l).size = l.length := rfl
theorem ext_data {a b : ByteArray} (h : a.data.toList = b.data.toList) : a = b := by
  cases a; cases b; congr; exact Array.toList_inj.1 h
theorem bl_append (a b : List UInt8) : bl a ++ bl b = bl (a ++ b) := by
  apply ext_data; rw [data_append]; rfl
theorem dig_step (u : Nat) : strOfNums [(IntKind.u64.wrap (48 + Int.tmod (u : Int) 10)) % 256] = bl [UInt8.ofNat (48 + u % 10)] := by
  have e : ((IntKind.u64.wrap (48 + Int.tmod (u : Int) 10)) % 256).toNat = 48 + u % 10 := by
    rw [Int.tmod_eq_emod_of_nonneg (by omega), IntKind.wrap_u64]; omega
  unfold strOfNums bl
  simp only [List.map_cons, List.map_nil, e]
theorem div_step (u : Nat) (hu : u < 18446744073709551616) : IntKind.u64.wrap (Int.tdiv (u : Int) 10) = ((u / 10 : Nat) : Int) := by
  rw [Int.tdiv_eq_ediv_of_nonneg (by omega), IntKind.wrap_u64]; omega
theorem round_f (m u : Nat) (n : Int) (acc : List UInt8) (hu : u < 18446744073709551616) (hl : acc.length ≤ 1000) (h : 0 < u ∨ (acc.length : Int) < n) :
    chanceryref17_digits.l0 (m + 1) u n (bl acc) = chanceryref17_digits.l0 m ((u / 10 : Nat) : Int) n (bl (UInt8.ofNat (48 + u % 10) :: acc)) := by
  rw [chanceryref17_digits.l0]
  have e : (strOfNums [(IntKind.u64.wrap (48 + Int.tmod (u : Int) 10)) % 256]).size + (bl acc).size ≤ 9223372036854775807 := by
    rw [strOfNums_size, bl_size]; simp only [List.length_cons, List.length_nil]; omega
  simp only [Option.bind_some]
  rw [if_pos e, dig_step, div_step u hu, bl_append]
  by_cases hp : (u : Int) > 0
  · rw [if_pos hp]; rfl
  · rw [if_neg hp, if_pos (by rw [bl_size]; omega)]; rfl
theorem stop_f (m : Nat) (n : Int) (acc : List UInt8) (h : n ≤ (acc.length : Int)) : chanceryref17_digits.l0 (m + 1) ((0 : Nat) : Int) n (bl acc) = some (bl acc) := by
  rw [chanceryref17_digits.l0, if_neg (by omega), if_neg (by rw [bl_size]; omega)]
theorem dig_loop : ∀ (j u m : Nat) (acc : List UInt8), 0 < u → u < 10 ^ j → u < 18446744073709551616 → acc.length + j ≤ 100 →
    chanceryref17_digits.l0 (m + j + 1) u 1 (bl acc) = some (bl (Lib.decDigits u ++ acc))
  | 0, u, m, acc, h0, h1, _, _ => by simp at h1; omega
  | j + 1, u, m, acc, h0, h1, h2, h3 => by
    rw [round_f (m + (j + 1)) u 1 acc h2 (by omega) (Or.inl h0), Lib.decDigits]
    by_cases c : u < 10
    · rw [dif_pos c, show u / 10 = 0 by omega, show u % 10 = u by omega, show m + (j + 1) = (m + j) + 1 by omega]
      rw [stop_f _ _ _ (by simp only [List.length_cons]; omega)]; rfl
    · rw [dif_neg c, show m + (j + 1) = m + j + 1 by omega, dig_loop j (u / 10) m _ (by omega) (by rw [Nat.pow_succ] at h1; omega) (by omega) (by simp only [List.length_cons]; omega)]
      rw [List.append_assoc]; rfl
theorem digits_one (m u : Nat) (h : u < 18446744073709551616) : chanceryref17_digits.f (m + 30) u 1 = some (bl (Lib.decDigits u)) := by
  unfold chanceryref17_digits.f
  change chanceryref17_digits.l0 (m + 30) u 1 (bl []) = _
  by_cases h0 : u = 0
  · subst h0
    rw [round_f (m + 29) 0 1 [] (by decide) (by decide) (Or.inr (by decide)), stop_f (m + 28) _ _ (by decide), Lib.decDigits_one (by decide)]
  · rw [show m + 30 = (m + 9) + 20 + 1 by omega, dig_loop 20 u (m + 9) [] (by omega) (by omega) h (by decide), List.append_nil]
theorem digits_four (m u : Nat) (h : u < 10000) : chanceryref17_digits.f (m + 30) u 4 = some (bl (tail4 u)) := by
  unfold chanceryref17_digits.f
  change chanceryref17_digits.l0 (m + 30) u 4 (bl []) = _
  rw [round_f (m + 29) u 4 [] (by omega) (by decide) (Or.inr (by decide))]
  rw [round_f (m + 28) (u / 10) 4 _ (by omega) (by simp) (Or.inr (by simp))]
  rw [round_f (m + 27) (u / 10 / 10) 4 _ (by omega) (by simp) (Or.inr (by simp))]
  rw [round_f (m + 26) (u / 10 / 10 / 10) 4 _ (by omega) (by simp) (Or.inr (by simp))]
  rw [show u / 10 / 10 / 10 / 10 = 0 by omega, stop_f (m + 25) 4 _ (by simp)]
  unfold tail4
  rw [Lib.decDigits, dif_neg (by omega), Lib.decDigits, dif_neg (by omega), Lib.decDigits, dif_neg (by omega), Lib.decDigits, dif_neg (by omega), Lib.decDigits_one (by omega)]
  rw [show (10000 + u) / 10 / 10 / 10 % 10 = u / 10 / 10 / 10 % 10 by omega, show (10000 + u) / 10 / 10 % 10 = u / 10 / 10 % 10 by omega, show (10000 + u) / 10 % 10 = u / 10 % 10 by omega, show (10000 + u) % 10 = u % 10 by omega]
  rfl
theorem one_byte (s : ByteArray) (i : Nat) (h : i < s.size) : s.extract i (i + 1) = bl [s[i]] := by
  apply ext_data
  rw [ByteArray.data_extract, bl_data]
  apply List.ext_getElem
  · simp; omega
  · intro k h1 h2
    have : k = 0 := by simp at h2; omega
    subst this
    simp; rfl
theorem drop_one (s : ByteArray) (i : Nat) (h : i < s.size) : s.data.toList.drop i = s[i] :: s.data.toList.drop (i + 1) := by
  rw [List.drop_eq_getElem_cons (by simpa using h)]; rfl
theorem bt_get (s : ByteArray) (i : Nat) (h : i < s.size) : bt s (i : Int) = (s[i].toNat : Int) := by
  have e := bt_at s (i : Int) (by simpa using h)
  rw [← e]; rfl
theorem text_loop (k n : Int) (s : ByteArray) (hs : s.size ≤ 200) : ∀ (d i m : Nat) (acc : List UInt8), i + d = s.size → acc.length + 2 * d ≤ 10000 →
    chanceryref17_Print.l0 (m + d + 1) (bl acc) i k n s = some (bl (acc ++ Wt.quoted (s.data.toList.drop i) ++ [39]))
  | 0, i, m, acc, h0, h1 => by
    rw [chanceryref17_Print.l0, if_neg (by omega), if_pos (by rw [bl_size]; omega)]
    have : s.data.toList.drop i = [] := List.drop_eq_nil_of_le (by simp; show s.size ≤ i; omega)
    rw [this]
    show some (bl acc ++ bl [39]) = _
    rw [bl_append]; simp [Wt.quoted]
  | d + 1, i, m, acc, h0, h1 => by
    have hi : i < s.size := by omega
    have hw : wrap64 ((i : Int) + 1) = ((i + 1 : Nat) : Int) := by unfold wrap64; omega
    rw [chanceryref17_Print.l0, if_pos (by omega), if_pos (by omega), hw, bt_get s i hi]
    rw [if_pos (show (i : Int) ≤ ((i + 1 : Nat) : Int) by omega), if_pos (show ((i + 1 : Nat) : Int) ≤ (s.size : Int) by omega)]
    rw [show ((i : Int)).toNat = i from rfl, show (((i + 1 : Nat) : Int)).toNat = i + 1 from rfl, one_byte s i hi]
    rw [if_pos (show (i : Int) ≤ ((i + 1 : Nat) : Int) by omega), if_pos (show ((i + 1 : Nat) : Int) ≤ (s.size : Int) by omega)]
    rw [drop_one s i hi, Wt.quoted_cons]
    by_cases c : (s[i].toNat : Int) = 39
    · have cb : s[i] = 39 := UInt8.toNat_inj.1 (by show s[i].toNat = 39; omega)
      rw [if_pos c, if_pos (by rw [bl_size]; omega)]
      change (if (bl acc ++ bl [39]).size + (bl [s[i]]).size ≤ 9223372036854775807 then chanceryref17_Print.l0 (m + (d + 1)) ((bl acc ++ bl [39]) ++ bl [s[i]]) ((i + 1 : Nat) : Int) k n s else none) = _
      rw [bl_append, bl_append, if_pos (by rw [bl_size, bl_size]; simp; omega), if_pos cb, cb, show m + (d + 1) = m + d + 1 by omega]
      rw [text_loop k n s hs d (i + 1) m _ (by omega) (by simp; omega)]
      simp
    · have cb : ¬ s[i] = 39 := fun e => c (by rw [e]; rfl)
      rw [if_neg c, bl_append, if_pos (by rw [bl_size, bl_size]; simp; omega), if_neg cb, show m + (d + 1) = m + d + 1 by omega]
      rw [text_loop k n s hs d (i + 1) m _ (by omega) (by simp; omega)]
      simp
theorem digit_at (n : Nat) (h : n < 16) : (⟨#[48, 49, 50, 51, 52, 53, 54, 55, 56, 57, 97, 98, 99, 100, 101, 102]⟩ : ByteArray).extract n (n + 1) = bl [hexd n] := by
  have : n = 0 ∨ n = 1 ∨ n = 2 ∨ n = 3 ∨ n = 4 ∨ n = 5 ∨ n = 6 ∨ n = 7 ∨ n = 8 ∨ n = 9 ∨ n = 10 ∨ n = 11 ∨ n = 12 ∨ n = 13 ∨ n = 14 ∨ n = 15 := by omega
  rcases this with rfl | rfl | rfl | rfl | rfl | rfl | rfl | rfl | rfl | rfl | rfl | rfl | rfl | rfl | rfl | rfl <;> rfl
theorem bytes_loop (k n : Int) (s : ByteArray) (hs : s.size ≤ 200) : ∀ (d i m : Nat) (acc : List UInt8), i + d = s.size → acc.length + 2 * d ≤ 10000 →
    chanceryref17_Print.l1 (m + d + 1) (bl acc) i k n s = some (bl (acc ++ hexs (s.data.toList.drop i) ++ [39]))
  | 0, i, m, acc, h0, h1 => by
    rw [chanceryref17_Print.l1, if_neg (by omega), if_pos (by rw [bl_size]; omega)]
    have : s.data.toList.drop i = [] := List.drop_eq_nil_of_le (by simp; show s.size ≤ i; omega)
    rw [this]
    show some (bl acc ++ bl [39]) = _
    rw [bl_append]; simp [hexs]
  | d + 1, i, m, acc, h0, h1 => by
    have hi : i < s.size := by omega
    have hw : wrap64 ((i : Int) + 1) = ((i + 1 : Nat) : Int) := by unfold wrap64; omega
    have hb : s[i].toNat < 256 := UInt8.toNat_lt _
    rw [chanceryref17_Print.l1, if_pos (by omega), if_pos (by omega), hw, bt_get s i hi, drop_one s i hi, hexs_cons]
    generalize s[i].toNat = b at *
    rw [Int.tdiv_eq_ediv_of_nonneg (by omega), Int.tmod_eq_emod_of_nonneg (by omega)]
    have e1 : ((b : Int) / 16 % 256) = ((b / 16 : Nat) : Int) := by omega
    have e2 : (((b : Int) / 16 % 256 + 1) % 256) = ((b / 16 + 1 : Nat) : Int) := by omega
    have e3 : ((b : Int) % 16) = ((b % 16 : Nat) : Int) := by omega
    have e4 : (((b : Int) % 16 + 1) % 256) = ((b % 16 + 1 : Nat) : Int) := by omega
    rw [e2, e1, e4, e3]
    rw [show (((b / 16 : Nat) : Int)).toNat = b / 16 from rfl, show (((b / 16 + 1 : Nat) : Int)).toNat = b / 16 + 1 from rfl, show (((b % 16 : Nat) : Int)).toNat = b % 16 from rfl, show (((b % 16 + 1 : Nat) : Int)).toNat = b % 16 + 1 from rfl, digit_at _ (by omega), digit_at _ (by omega), bl_append, bl_append]
    rw [if_pos (by omega), if_pos (by omega), if_pos (by omega), if_pos (by rw [bl_size, bl_size]; simp; omega), if_pos (by omega), if_pos (by omega), if_pos (by omega), if_pos (by rw [bl_size, bl_size]; simp; omega)]
    rw [show m + (d + 1) = m + d + 1 by omega, bytes_loop k n s hs d (i + 1) m _ (by omega) (by simp; omega)]
    simp
theorem ref_print (k n : Int) (s : ByteArray) (hn : I64 n) : chanceryref17_Print.f 300 k n s = some (printR k n s) := by
  unfold chanceryref17_Print.f
  rw [ref_right 299]
  simp only [Option.bind_some]
  cases hr : rightB k n s
  · rw [if_neg (by decide), print_wrong k n s hr]
  rw [if_pos rfl]
  obtain ⟨n0, n1⟩ := hn
  -- the size and the sign
  have hu : ∃ mi : List UInt8, (mi = if n < 0 then [45] else []) ∧ (if n < 0 then chanceryref17_Print.j0 300 (IntKind.u64.wrap (-(IntKind.u64.wrap n))) (⟨#[45]⟩ : ByteArray) k n s else chanceryref17_Print.j0 300 (IntKind.u64.wrap n) (⟨#[]⟩ : ByteArray) k n s) = chanceryref17_Print.j0 300 ((n.natAbs : Nat) : Int) (bl mi) k n s := by
    refine ⟨_, rfl, ?_⟩
    by_cases c : n < 0
    · rw [if_pos c, if_pos c]
      have e : IntKind.u64.wrap (-(IntKind.u64.wrap n)) = ((n.natAbs : Nat) : Int) := by rw [IntKind.wrap_u64, IntKind.wrap_u64]; omega
      rw [e]; rfl
    · rw [if_neg c, if_neg c]
      have e : IntKind.u64.wrap n = ((n.natAbs : Nat) : Int) := by rw [IntKind.wrap_u64]; omega
      rw [e]; rfl
  obtain ⟨mi, hmi, hu⟩ := hu
  rw [hu]
  have hml : mi.length ≤ 1 := by rw [hmi]; split <;> simp
  have hua : n.natAbs < 18446744073709551616 := by omega
  have hk := right_kind hr
  have goal_of : ∀ l, l = litL k n s.data.toList → some (bl l) = some (printR k n s) := by
    rintro l rfl
    congr 1
    apply ext_data
    rw [print_data k n s hr]; rfl
  rw [chanceryref17_Print.j0]
  rcases hk with hk | hk | hk | hk | hk | hk
  · subst hk
    rw [if_pos rfl]
    exact goal_of _ rfl
  · subst hk
    rw [if_neg (by decide), if_pos rfl]
    by_cases c : n = 1
    · rw [if_pos c]; exact goal_of _ (by unfold litL; rw [if_neg (by decide), if_pos rfl, if_pos c])
    · rw [if_neg c]; exact goal_of _ (by unfold litL; rw [if_neg (by decide), if_pos rfl, if_neg c])
  · subst hk
    rw [if_neg (by decide), if_neg (by decide), if_pos rfl, digits_one 269 _ hua]
    simp only [Option.bind_some]
    have hd := (dec_le n.natAbs hua).2
    have hl : (Lib.decDigits n.natAbs).length ≤ 20 := hd
    rw [if_pos (by rw [bl_size, bl_size]; omega), bl_append]
    apply goal_of
    unfold litL Lib.itoa
    rw [if_neg (by decide), if_neg (by decide), if_pos rfl, hmi]
    by_cases c : n < 0
    · rw [if_pos c, if_pos c]; rfl
    · rw [if_neg c, if_neg c, show n.natAbs = n.toNat by omega]; rfl
  · subst hk
    rw [if_neg (by decide), if_neg (by decide), if_neg (by decide), if_pos rfl]
    have e1 : IntKind.u64.wrap (Int.tdiv ((n.natAbs : Nat) : Int) 10000) = ((n.natAbs / 10000 : Nat) : Int) := by
      rw [Int.tdiv_eq_ediv_of_nonneg (by omega), IntKind.wrap_u64]; omega
    have e2 : Int.tmod ((n.natAbs : Nat) : Int) 10000 = ((n.natAbs % 10000 : Nat) : Int) := by
      rw [Int.tmod_eq_emod_of_nonneg (by omega)]; omega
    rw [e1, e2, digits_one 269 _ (by omega), digits_four 269 _ (by omega)]
    simp only [Option.bind_some]
    have hl : (Lib.decDigits (n.natAbs / 10000)).length ≤ 20 := (dec_le (n.natAbs / 10000) (by omega)).2
    have hl4 : (tail4 (n.natAbs % 10000)).length ≤ 20 := by
      unfold tail4; rw [List.length_drop]
      have := (dec_le (10000 + n.natAbs % 10000) (by omega)).2
      have : (Lib.decDigits (10000 + n.natAbs % 10000)).length ≤ 20 := this
      omega
    rw [bl_append, if_pos (by rw [bl_size, bl_size]; omega), if_pos (by rw [bl_size, List.length_append]; omega)]
    change (if (bl (mi ++ Lib.decDigits (n.natAbs / 10000)) ++ bl [46]).size + _ ≤ _ then some ((bl (mi ++ Lib.decDigits (n.natAbs / 10000)) ++ bl [46]) ++ _) else none) = _
    rw [bl_append, bl_append, if_pos (by rw [bl_size, bl_size, List.length_append, List.length_append]; simp only [List.length_cons, List.length_nil]; omega)]
    apply goal_of
    unfold litL decL fourL
    rw [if_neg (by decide), if_neg (by decide), if_neg (by decide), if_pos rfl, hmi]
    by_cases c : n < 0
    · rw [if_pos c, if_pos c]; simp
    · rw [if_neg c, if_neg c]; simp
  · subst hk
    have hs := right_text hr (Or.inl rfl)
    rw [if_neg (by decide), if_neg (by decide), if_neg (by decide), if_neg (by decide), if_pos rfl]
    change chanceryref17_Print.l0 299 (bl [39]) ((0 : Nat) : Int) 4 n s = _
    rw [show 299 = (298 - s.size) + s.size + 1 by omega, text_loop 4 n s hs s.size 0 _ [39] (by omega) (by simp; omega)]
    apply goal_of
    unfold litL
    rw [if_neg (by decide), if_neg (by decide), if_neg (by decide), if_neg (by decide), if_pos rfl, List.drop_zero]; simp
  · subst hk
    have hs := right_text hr (Or.inr rfl)
    rw [if_neg (by decide), if_neg (by decide), if_neg (by decide), if_neg (by decide), if_neg (by decide)]
    change chanceryref17_Print.l1 299 (bl [120, 39]) ((0 : Nat) : Int) 5 n s = _
    rw [show 299 = (298 - s.size) + s.size + 1 by omega, bytes_loop 5 n s hs s.size 0 _ [120, 39] (by omega) (by simp; omega)]
    apply goal_of
    unfold litL
    rw [if_neg (by decide), if_neg (by decide), if_neg (by decide), if_neg (by decide), if_neg (by decide), List.drop_zero]; simp
end Go.Proofs.YtbodlnoipkommaaDoor.Pk
namespace Go.Proofs.YtbodlnoipkommaaDoor.Xr
open Go Go.RowKit Go.Proofs.YtbodlnoipkommaaDoor.Q Go.Proofs.YtbodlnoipkommaaDoor.Wf Go.Proofs.YtbodlnoipkommaaDoor.Wh Go.Proofs.YtbodlnoipkommaaDoor.Wp Go.Proofs.YtbodlnoipkommaaDoor.Xa Go.Proofs.YtbodlnoipkommaaDoorW.PrintWords Go.Proofs.YtbodlnoipkommaaDoorW.PrintLast Go.Proofs.YtbodlnoipkommaaDoorW.PrintMore
set_option linter.unusedVariables false
theorem eqv (k n : Int) (s : ByteArray) (W : World) : (binOp .eql 25 (.agg #[.int .u8 k, .int .i64 n, .string s]) (.agg #[.int .u8 k, .int .i64 n, .string s])).run Tryd.prog W = .ok (.bool true) W := by
  rw [run_eql_struct, eqA25 9998]
  simp
end Go.Proofs.YtbodlnoipkommaaDoor.Xr
namespace Go.Proofs.YtbodlnoipkommaaDoor.Xt
open Go Go.RowKit Go.Proofs.YtbodlnoipkommaaDoor.Q Go.Proofs.YtbodlnoipkommaaDoor.Wf Go.Proofs.YtbodlnoipkommaaDoor.Wh Go.Proofs.YtbodlnoipkommaaDoor.Wp Go.Proofs.YtbodlnoipkommaaDoor.Xa Go.Proofs.YtbodlnoipkommaaDoor.Xr Go.Proofs.YtbodlnoipkommaaDoorW.PrintWords Go.Proofs.YtbodlnoipkommaaDoorW.PrintLast Go.Proofs.YtbodlnoipkommaaDoorW.PrintMore
set_option linter.unusedVariables false
set_option maxRecDepth 100000 in
set_option maxHeartbeats 4000000 in
theorem tells_walk (k0 n0 kk t a0 a1 a3 b0 b1 o0 o1 d f g : Int) (s0 a2 o2 p : ByteArray) (w : World) (hg : VOK w)
    (A : ∀ W, Calls Tryd.prog 30 #[(.agg #[.int .u8 k0, .int .i64 n0, .string s0]), .int .u8 kk] W fun e w' => e = .returned (.tuple #[(.agg #[.int .u8 a0, .int .i64 a1, .string a2]), .int .i64 a3]) ∧ Below W.heap.size W w')
    (A' : ∀ W, Calls Tryd.prog 31 #[(.agg #[.int .u8 k0, .int .i64 n0, .string s0]), .int .u8 kk] W fun e w' => e = .returned (.tuple #[(.agg #[.int .u8 a0, .int .i64 a1, .string a2]), .int .i64 a3]) ∧ Below W.heap.size W w')
    (T : ∀ W, Calls Tryd.prog 28 #[(.agg #[.int .u8 k0, .int .i64 n0, .string s0])] W fun e w' => e = .returned (.tuple #[.int .u8 b0, .int .i64 b1]) ∧ Below W.heap.size W w')
    (T' : ∀ W, Calls Tryd.prog 32 #[(.agg #[.int .u8 k0, .int .i64 n0, .string s0])] W fun e w' => e = .returned (.tuple #[.int .u8 b0, .int .i64 b1]) ∧ Below W.heap.size W w')
    (P : ∀ W, VOK W → Calls Tryd.prog 16 #[(.agg #[.int .u8 k0, .int .i64 n0, .string s0])] W fun e w' => e = .returned (.string p) ∧ Below W.heap.size W w')
    (P' : ∀ W, Calls Tryd.prog 33 #[(.agg #[.int .u8 k0, .int .i64 n0, .string s0])] W fun e w' => e = .returned (.string p) ∧ Below W.heap.size W w')
    (F : ∀ W, Calls Tryd.prog 29 #[.int .u8 t] W fun e w' => e = .returned ((.agg #[.int .u8 o0, .int .i64 o1, .string o2])) ∧ Below W.heap.size W w')
    (F' : ∀ W, Calls Tryd.prog 34 #[.int .u8 t] W fun e w' => e = .returned ((.agg #[.int .u8 o0, .int .i64 o1, .string o2])) ∧ Below W.heap.size W w')
    (D : ∀ W, VOK W → Calls Tryd.prog 26 #[.int .u8 t, .int .u8 kk] W fun e w' => e = .returned (.int .u8 d) ∧ Drawn0 W w')
    (D' : ∀ W, Calls Tryd.prog 35 #[.int .u8 t, .int .u8 kk] W fun e w' => e = .returned (.int .u8 d) ∧ Drawn0 W w')
    (O : ∀ W, VOK W → Calls Tryd.prog 27 #[.int .u8 t, .int .u8 kk] W fun e w' => e = .returned (.int .u8 f) ∧ Drawn0 W w')
    (O' : ∀ W, Calls Tryd.prog 36 #[.int .u8 t, .int .u8 kk] W fun e w' => e = .returned (.int .u8 f) ∧ Drawn0 W w')
    (N : ∀ W, VOK W → Calls Tryd.prog 18 #[.int .u8 t] W fun e w' => e = .returned (.int .u8 g) ∧ Drawn0 W w')
    (N' : ∀ W, Calls Tryd.prog 37 #[.int .u8 t] W fun e w' => e = .returned (.int .u8 g) ∧ Drawn0 W w') :
    Calls Tryd.prog 8 #[(.agg #[.int .u8 k0, .int .i64 n0, .string s0]), .int .u8 kk, .int .u8 t] w fun e w' => e = .returned (.bool true) ∧ Below w.heap.size w w' := by
  replace A := Aside0.mk A
  replace A' := Aside0.mk A'
  replace T := Aside0.mk T
  replace T' := Aside0.mk T'
  replace P := Aside0.mk P
  replace P' := Aside0.mk P'
  replace F := Aside0.mk F
  replace F' := Aside0.mk F'
  replace D := Aside0.mk D
  replace D' := Aside0.mk D'
  replace O := Aside0.mk O
  replace O' := Aside0.mk O'
  replace N := Aside0.mk N
  replace N' := Aside0.mk N'
  have W0 := Aside0.mk awake_calls
  have HG := Aside0.mk hg
  clear hg
  have qa := eqv a0 a1 a2
  have qo := eqv o0 o1 o2
  go_enter Tryd.func8, Tryd.ntmps8
  go_wp2_with fail
  refine (A.out _).mono ?_
  rintro e w1 ⟨rfl, hb1⟩
  have L1x : w.heap.size < w1.heap.size := Nat.lt_of_lt_of_le (by first | assumption | (simp; done) | (simp; omega) | omega : w.heap.size < _) hb1.size
  have r1x0 : w1.cell? ⟨w.heap.size, 0, none⟩ = some (.int .u8 k0) := (hb1.cell (p := ⟨w.heap.size, 0, none⟩) (by first | assumption | (simp; done) | (simp; omega) | omega)).trans (by first | assumption | (go_simp; done) | (simp [*]; done))
  have r1x1 : w1.cell? ⟨w.heap.size, 1, none⟩ = some (.int .i64 n0) := (hb1.cell (p := ⟨w.heap.size, 1, none⟩) (by first | assumption | (simp; done) | (simp; omega) | omega)).trans (by first | assumption | (go_simp; done) | (simp [*]; done))
  have r1x2 : w1.cell? ⟨w.heap.size, 2, none⟩ = some (.string s0) := (hb1.cell (p := ⟨w.heap.size, 2, none⟩) (by first | assumption | (simp; done) | (simp; omega) | omega)).trans (by first | assumption | (go_simp; done) | (simp [*]; done))
  have B1 := Aside0.mk (below_step (below_alloc (Below.refl _ _) _) hb1)
  clear hb1
  go_wp2_with fail
  refine (A'.out _).mono ?_
  rintro e w2 ⟨rfl, hb2⟩
  have L2x : w.heap.size < w2.heap.size := Nat.lt_of_lt_of_le (by first | assumption | (simp; done) | (simp; omega) | omega : w.heap.size < _) hb2.size
  have r2x0 : w2.cell? ⟨w.heap.size, 0, none⟩ = some (.int .u8 k0) := (hb2.cell (p := ⟨w.heap.size, 0, none⟩) (by first | assumption | (simp; done) | (simp; omega) | omega)).trans (by first | assumption | (go_simp; done) | (simp [*]; done))
  have r2x1 : w2.cell? ⟨w.heap.size, 1, none⟩ = some (.int .i64 n0) := (hb2.cell (p := ⟨w.heap.size, 1, none⟩) (by first | assumption | (simp; done) | (simp; omega) | omega)).trans (by first | assumption | (go_simp; done) | (simp [*]; done))
  have r2x2 : w2.cell? ⟨w.heap.size, 2, none⟩ = some (.string s0) := (hb2.cell (p := ⟨w.heap.size, 2, none⟩) (by first | assumption | (simp; done) | (simp; omega) | omega)).trans (by first | assumption | (go_simp; done) | (simp [*]; done))
  have L2z1 : w1.heap.size < w2.heap.size := Nat.lt_of_lt_of_le (by first | assumption | (simp; done) | (simp; omega) | omega : w1.heap.size < _) hb2.size
  have r2z10 : w2.cell? ⟨w1.heap.size, 0, none⟩ = some (.int .u8 a0) := (hb2.cell (p := ⟨w1.heap.size, 0, none⟩) (by first | assumption | (simp; done) | (simp; omega) | omega)).trans (by first | assumption | (go_simp; done) | (simp [*]; done))
  have r2z11 : w2.cell? ⟨w1.heap.size, 1, none⟩ = some (.int .i64 a1) := (hb2.cell (p := ⟨w1.heap.size, 1, none⟩) (by first | assumption | (simp; done) | (simp; omega) | omega)).trans (by first | assumption | (go_simp; done) | (simp [*]; done))
  have r2z12 : w2.cell? ⟨w1.heap.size, 2, none⟩ = some (.string a2) := (hb2.cell (p := ⟨w1.heap.size, 2, none⟩) (by first | assumption | (simp; done) | (simp; omega) | omega)).trans (by first | assumption | (go_simp; done) | (simp [*]; done))
  have B2 := Aside0.mk (below_step (below_alloc B1.out _) hb2)
  clear hb2
  clear L1x r1x0 r1x1 r1x2
  go_wp2_with fail
  refine (T.out _).mono ?_
  rintro e w3 ⟨rfl, hb3⟩
  have L3x : w.heap.size < w3.heap.size := Nat.lt_of_lt_of_le (by first | assumption | (simp; done) | (simp; omega) | omega : w.heap.size < _) hb3.size
  have r3x0 : w3.cell? ⟨w.heap.size, 0, none⟩ = some (.int .u8 k0) := (hb3.cell (p := ⟨w.heap.size, 0, none⟩) (by first | assumption | (simp; done) | (simp; omega) | omega)).trans (by first | assumption | (go_simp; done) | (simp [*]; done))
  have r3x1 : w3.cell? ⟨w.heap.size, 1, none⟩ = some (.int .i64 n0) := (hb3.cell (p := ⟨w.heap.size, 1, none⟩) (by first | assumption | (simp; done) | (simp; omega) | omega)).trans (by first | assumption | (go_simp; done) | (simp [*]; done))
  have r3x2 : w3.cell? ⟨w.heap.size, 2, none⟩ = some (.string s0) := (hb3.cell (p := ⟨w.heap.size, 2, none⟩) (by first | assumption | (simp; done) | (simp; omega) | omega)).trans (by first | assumption | (go_simp; done) | (simp [*]; done))
  have L3z1 : w1.heap.size < w3.heap.size := Nat.lt_of_lt_of_le (by first | assumption | (simp; done) | (simp; omega) | omega : w1.heap.size < _) hb3.size
  have r3z10 : w3.cell? ⟨w1.heap.size, 0, none⟩ = some (.int .u8 a0) := (hb3.cell (p := ⟨w1.heap.size, 0, none⟩) (by first | assumption | (simp; done) | (simp; omega) | omega)).trans (by first | assumption | (go_simp; done) | (simp [*]; done))
  have r3z11 : w3.cell? ⟨w1.heap.size, 1, none⟩ = some (.int .i64 a1) := (hb3.cell (p := ⟨w1.heap.size, 1, none⟩) (by first | assumption | (simp; done) | (simp; omega) | omega)).trans (by first | assumption | (go_simp; done) | (simp [*]; done))
  have r3z12 : w3.cell? ⟨w1.heap.size, 2, none⟩ = some (.string a2) := (hb3.cell (p := ⟨w1.heap.size, 2, none⟩) (by first | assumption | (simp; done) | (simp; omega) | omega)).trans (by first | assumption | (go_simp; done) | (simp [*]; done))
  have L3z2 : w2.heap.size < w3.heap.size := Nat.lt_of_lt_of_le (by first | assumption | (simp; done) | (simp; omega) | omega : w2.heap.size < _) hb3.size
  have r3z20 : w3.cell? ⟨w2.heap.size, 0, none⟩ = some (.int .u8 a0) := (hb3.cell (p := ⟨w2.heap.size, 0, none⟩) (by first | assumption | (simp; done) | (simp; omega) | omega)).trans (by first | assumption | (go_simp; done) | (simp [*]; done))
  have r3z21 : w3.cell? ⟨w2.heap.size, 1, none⟩ = some (.int .i64 a1) := (hb3.cell (p := ⟨w2.heap.size, 1, none⟩) (by first | assumption | (simp; done) | (simp; omega) | omega)).trans (by first | assumption | (go_simp; done) | (simp [*]; done))
  have r3z22 : w3.cell? ⟨w2.heap.size, 2, none⟩ = some (.string a2) := (hb3.cell (p := ⟨w2.heap.size, 2, none⟩) (by first | assumption | (simp; done) | (simp; omega) | omega)).trans (by first | assumption | (go_simp; done) | (simp [*]; done))
  have B3 := Aside0.mk (below_step (below_alloc B2.out _) hb3)
  clear hb3
  clear L2x L2z1 r2x0 r2x1 r2x2 r2z10 r2z11 r2z12
  go_wp2_with fail
  refine (T'.out _).mono ?_
  rintro e w4 ⟨rfl, hb4⟩
  have L4x : w.heap.size < w4.heap.size := Nat.lt_of_lt_of_le (by first | assumption | (simp; done) | (simp; omega) | omega : w.heap.size < _) hb4.size
  have r4x0 : w4.cell? ⟨w.heap.size, 0, none⟩ = some (.int .u8 k0) := (hb4.cell (p := ⟨w.heap.size, 0, none⟩) (by first | assumption | (simp; done) | (simp; omega) | omega)).trans (by first | assumption | (go_simp; done) | (simp [*]; done))
  have r4x1 : w4.cell? ⟨w.heap.size, 1, none⟩ = some (.int .i64 n0) := (hb4.cell (p := ⟨w.heap.size, 1, none⟩) (by first | assumption | (simp; done) | (simp; omega) | omega)).trans (by first | assumption | (go_simp; done) | (simp [*]; done))
  have r4x2 : w4.cell? ⟨w.heap.size, 2, none⟩ = some (.string s0) := (hb4.cell (p := ⟨w.heap.size, 2, none⟩) (by first | assumption | (simp; done) | (simp; omega) | omega)).trans (by first | assumption | (go_simp; done) | (simp [*]; done))
  have L4z1 : w1.heap.size < w4.heap.size := Nat.lt_of_lt_of_le (by first | assumption | (simp; done) | (simp; omega) | omega : w1.heap.size < _) hb4.size
  have r4z10 : w4.cell? ⟨w1.heap.size, 0, none⟩ = some (.int .u8 a0) := (hb4.cell (p := ⟨w1.heap.size, 0, none⟩) (by first | assumption | (simp; done) | (simp; omega) | omega)).trans (by first | assumption | (go_simp; done) | (simp [*]; done))
  have r4z11 : w4.cell? ⟨w1.heap.size, 1, none⟩ = some (.int .i64 a1) := (hb4.cell (p := ⟨w1.heap.size, 1, none⟩) (by first | assumption | (simp; done) | (simp; omega) | omega)).trans (by first | assumption | (go_simp; done) | (simp [*]; done))
  have r4z12 : w4.cell? ⟨w1.heap.size, 2, none⟩ = some (.string a2) := (hb4.cell (p := ⟨w1.heap.size, 2, none⟩) (by first | assumption | (simp; done) | (simp; omega) | omega)).trans (by first | assumption | (go_simp; done) | (simp [*]; done))
  have L4z2 : w2.heap.size < w4.heap.size := Nat.lt_of_lt_of_le (by first | assumption | (simp; done) | (simp; omega) | omega : w2.heap.size < _) hb4.size
  have r4z20 : w4.cell? ⟨w2.heap.size, 0, none⟩ = some (.int .u8 a0) := (hb4.cell (p := ⟨w2.heap.size, 0, none⟩) (by first | assumption | (simp; done) | (simp; omega) | omega)).trans (by first | assumption | (go_simp; done) | (simp [*]; done))
  have r4z21 : w4.cell? ⟨w2.heap.size, 1, none⟩ = some (.int .i64 a1) := (hb4.cell (p := ⟨w2.heap.size, 1, none⟩) (by first | assumption | (simp; done) | (simp; omega) | omega)).trans (by first | assumption | (go_simp; done) | (simp [*]; done))
  have r4z22 : w4.cell? ⟨w2.heap.size, 2, none⟩ = some (.string a2) := (hb4.cell (p := ⟨w2.heap.size, 2, none⟩) (by first | assumption | (simp; done) | (simp; omega) | omega)).trans (by first | assumption | (go_simp; done) | (simp [*]; done))
  have B4 := Aside0.mk (below_step (B3.out) hb4)
  clear hb4
  clear L3x L3z1 L3z2 r3x0 r3x1 r3x2 r3z10 r3z11 r3z12 r3z20 r3z21 r3z22
  go_wp2_with fail
  have rux0 : ∀ W, Below w4.heap.size w4 W → W.cell? ⟨w.heap.size, 0, none⟩ = some (.int .u8 k0) := fun W h => pw_cell_below h r4x0
  have rux1 : ∀ W, Below w4.heap.size w4 W → W.cell? ⟨w.heap.size, 1, none⟩ = some (.int .i64 n0) := fun W h => pw_cell_below h r4x1
  have rux2 : ∀ W, Below w4.heap.size w4 W → W.cell? ⟨w.heap.size, 2, none⟩ = some (.string s0) := fun W h => pw_cell_below h r4x2
  have ruz10 : ∀ W, Below w4.heap.size w4 W → W.cell? ⟨w1.heap.size, 0, none⟩ = some (.int .u8 a0) := fun W h => pw_cell_below h r4z10
  have ruz11 : ∀ W, Below w4.heap.size w4 W → W.cell? ⟨w1.heap.size, 1, none⟩ = some (.int .i64 a1) := fun W h => pw_cell_below h r4z11
  have ruz12 : ∀ W, Below w4.heap.size w4 W → W.cell? ⟨w1.heap.size, 2, none⟩ = some (.string a2) := fun W h => pw_cell_below h r4z12
  have ruz20 : ∀ W, Below w4.heap.size w4 W → W.cell? ⟨w2.heap.size, 0, none⟩ = some (.int .u8 a0) := fun W h => pw_cell_below h r4z20
  have ruz21 : ∀ W, Below w4.heap.size w4 W → W.cell? ⟨w2.heap.size, 1, none⟩ = some (.int .i64 a1) := fun W h => pw_cell_below h r4z21
  have ruz22 : ∀ W, Below w4.heap.size w4 W → W.cell? ⟨w2.heap.size, 2, none⟩ = some (.string a2) := fun W h => pw_cell_below h r4z22
  clear L4x L4z1 L4z2 r4x0 r4x1 r4x2 r4z10 r4z11 r4z12 r4z20 r4z21 r4z22
  have G4 := Aside0.mk (VOK.below HG.out (B4.out))
  have St0 := Aside0.mk (show Below w4.heap.size w4 w4.drew from below_drew1 (Below.refl _ _))
  go_region_held3 (fun W => Below w4.heap.size w4 W)
    (first | (with_reducible exact St0.out) | (with_reducible exact pw_below_drewN (by assumption) _) | (with_reducible exact below_step (by assumption) hb))
    (first | (((with_reducible refine (P.out _ ?vok).mono ?_); (case vok => exact VOK.below G4.out (by assumption)); rintro e w' ⟨rfl, hb⟩)) | (((with_reducible refine (P'.out _).mono ?_); rintro e w' ⟨rfl, hb⟩)) | (((with_reducible refine (F.out _).mono ?_); rintro e w' ⟨rfl, hb⟩)) | (((with_reducible refine (F'.out _).mono ?_); rintro e w' ⟨rfl, hb⟩)) | (((with_reducible refine (D.out _ ?vok).mono ?_); (case vok => exact VOK.below G4.out (by assumption)); rintro e w' ⟨rfl, hd⟩; have hb := hd.below)) | (((with_reducible refine (D'.out _).mono ?_); rintro e w' ⟨rfl, hd⟩; have hb := hd.below)) | (((with_reducible refine (O.out _ ?vok).mono ?_); (case vok => exact VOK.below G4.out (by assumption)); rintro e w' ⟨rfl, hd⟩; have hb := hd.below)) | (((with_reducible refine (O'.out _).mono ?_); rintro e w' ⟨rfl, hd⟩; have hb := hd.below)) | (((with_reducible refine (N.out _ ?vok).mono ?_); (case vok => exact VOK.below G4.out (by assumption)); rintro e w' ⟨rfl, hd⟩; have hb := hd.below)) | (((with_reducible refine (N'.out _).mono ?_); rintro e w' ⟨rfl, hd⟩; have hb := hd.below)) | (((with_reducible refine (W0.out _ ?vok).mono ?_); (case vok => exact VOK.below G4.out (by assumption)); rintro e w' ⟨rfl, hb⟩)))
  all_goals go_wp2
  all_goals go_ret
  all_goals exact ⟨rfl, below_step (B4.out) (by first | assumption | exact below_step (by assumption) hb)⟩
end Go.Proofs.YtbodlnoipkommaaDoor.Xt
namespace Go.Proofs.YtbodlnoipkommaaDoor.Q
open Go.RowKit Go.Proofs.YtbodlnoipkommaaDoorW.PrintWords Go.Proofs.YtbodlnoipkommaaDoorW.PrintLast Go.Proofs.YtbodlnoipkommaaDoorW.PrintMore
attribute [local go_sem] max2_int min2_int max_two min_two max_three min_three max_four min_four   -- for this text's walks alone
set_option linter.unusedVariables false
set_option linter.unusedSimpArgs false
mutual
def value_As.j0 : Nat → Int → Bool → Int → Int → ByteArray → Option (Int × Int × ByteArray × Int)
  | 0, _, _, _, _, _ => none
  | k + 1, x1, x6, x594000, x594001, x594002 => if x6 = true then (some (0, 0, (⟨#[]⟩ : ByteArray), 2)) else (if x594000 = 0 then (value_As.j1 k x1 true x594000 x594001 x594002) else (value_As.j1 k x1 (x594000 == x1) x594000 x594001 x594002))
def value_As.j1 : Nat → Int → Bool → Int → Int → ByteArray → Option (Int × Int × ByteArray × Int)
  | 0, _, _, _, _, _ => none
  | k + 1, x1, x19, x594000, x594001, x594002 => if x19 = true then (some (x594000, x594001, x594002, 0)) else (if x594000 = 2 then (value_As.j2 k (x1 == 3) x594000 x594001 x594002) else (value_As.j2 k false x594000 x594001 x594002))
def value_As.j2 : Nat → Bool → Int → Int → ByteArray → Option (Int × Int × ByteArray × Int)
  | 0, _, _, _, _ => none
  | k + 1, x30, x594000, x594001, x594002 => if x30 = true then ((value_fixed.f x594000 x594001 x594002).bind fun bt596 => ((value_wide_told.f bt596.1 bt596.2 3).bind fun bt598 => (some (bt598.1, bt598.2.1, bt598.2.2.1, bt598.2.2.2)))) else (some (0, 0, (⟨#[]⟩ : ByteArray), 270))
end
def value_As.f (k : Nat) (a0_0 : Int) (a0_1 : Int) (a0_2 : ByteArray) (a1 : Int) : Option (Int × Int × ByteArray × Int) := (value_Right.f k a0_0 a0_1 a0_2).bind fun t595 => (if t595 = true then (if a1 < 1 then (value_As.j0 k a1 true a0_0 a0_1 a0_2) else (value_As.j0 k a1 (decide (a1 > 5)) a0_0 a0_1 a0_2)) else (value_As.j0 k a1 true a0_0 a0_1 a0_2))
set_option maxHeartbeats 8000000 in
set_option maxRecDepth 100000 in
theorem value_As.calls (k : Nat) (a0_0 : Int) (a0_1 : Int) (a0_2 : ByteArray) (a1 : Int) (r1 : Int) (r2 : Int) (r3 : ByteArray) (r4 : Int) (w : World) (h : value_As.f k a0_0 a0_1 a0_2 a1 = some (r1, r2, r3, r4)) :
    Calls Tryd.prog 30 #[.agg #[.int .u8 a0_0, .int .i64 a0_1, .string a0_2], .int .u8 a1] w fun e w' => e = .returned (.tuple #[.agg #[.int .u8 r1, .int .i64 r2, .string r3], .int .i64 r4]) ∧ Below w.heap.size w w' := by
  have hu25 := Tryd.underlying25
  have HB := Aside0.mk (Below.refl w.heap.size w)
  have H : ((value_Right.f k a0_0 a0_1 a0_2).bind fun t595 => (if t595 = true then (if a1 < 1 then (value_As.j0 k a1 true a0_0 a0_1 a0_2) else (value_As.j0 k a1 (decide (a1 > 5)) a0_0 a0_1 a0_2)) else (value_As.j0 k a1 true a0_0 a0_1 a0_2))) = some (r1, r2, r3, r4) := h
  clear h
  have HC3 := Aside0.mk H
  clear H
  go_enter Tryd.func30, Tryd.ntmps30
  go_upto_region 1 with (first | ((with_reducible refine gate_dst (N := 2) rfl ?_); refine box_event ?hg (N := 2) ?hd (cs := #[.int .u8 a0_0, .int .i64 a0_1, .string a0_2]) (t := 25) ?hr ?_; (case hd => rfl); (case hg => rfl); (case hr => first | (go_simp; done) | (go_simp; rfl)); intro gb593 hg w4 hbox hb; have n0_ := Aside0.mk (below_step (by repeat (first | (with_reducible first | exact HB.out | apply below_alloc | apply pw_below_drewN | apply below_drew1) | exact HB.out)) hb); have n1_ := Aside0.mk (hbox); have n2_ := Aside0.mk ((by rw [hg]; exact (below_size (by repeat (first | (with_reducible first | exact HB.out | apply below_alloc | apply pw_below_drewN | apply below_drew1) | exact HB.out))) : w.heap.size ≤ gb593)); have n3_ := Aside0.mk ((by rw [hg]; exact (below_size (by repeat (first | (with_reducible first | exact HB.out | apply below_alloc | apply pw_below_drewN | apply below_drew1) | exact HB.out))) : w.heap.size ≤ gb593)); clear HB; have HB := n0_; have BK593 := n1_; have GW593 := n2_; have GE593 := n3_; clear n0_ n1_ n2_ n3_; clear hb hbox hg) | ((with_reducible refine gate_dst (N := 4) rfl ?_); refine box_event ?hg (N := 4) ?hd (cs := #[.int .u8 0, .int .i64 0, .string (⟨#[]⟩ : ByteArray)]) (t := 25) ?hr ?_; (case hd => rfl); (case hg => rfl); (case hr => first | (go_simp; done) | (go_simp; rfl)); intro gb594 hg w5 hbox hb; have n0_ := Aside0.mk (blk_below (g := gb593) (o := .cells #[.int .u8 a0_0, .int .i64 a0_1, .string a0_2] 25 (0, 0)) (by (with_reducible repeat (first | refine blk_drewN ?_ _ | refine blk_drew ?_ | refine blk_alloc ?_ _)); exact BK593.out) hb); have n1_ := Aside0.mk (below_step (by repeat (first | (with_reducible first | exact HB.out | apply below_alloc | apply pw_below_drewN | apply below_drew1 | refine below_set ?_ GE593.out) | exact HB.out)) hb); have n2_ := Aside0.mk (hbox); have n3_ := Aside0.mk ((by rw [hg]; exact (below_size (by repeat (first | (with_reducible first | exact HB.out | apply below_alloc | apply pw_below_drewN | apply below_drew1 | refine below_set ?_ GE593.out) | exact HB.out))) : w.heap.size ≤ gb594)); have n4_ := Aside0.mk ((by rw [hg]; exact (below_size (by repeat (first | (with_reducible first | exact HB.out | apply below_alloc | apply pw_below_drewN | apply below_drew1 | refine below_set ?_ GE593.out) | exact HB.out))) : w.heap.size ≤ gb594)); have n5_ := Aside0.mk ((by rw [hg]; exact Nat.ne_of_lt (blk_lt (g := gb593) (o := .cells #[.int .u8 a0_0, .int .i64 a0_1, .string a0_2] 25 (0, 0)) (by (with_reducible repeat (first | refine blk_drewN ?_ _ | refine blk_drew ?_ | refine blk_alloc ?_ _)); exact BK593.out)) : gb593 ≠ gb594)); have n6_ := Aside0.mk ((by rw [hg]; exact Nat.ne_of_gt (blk_lt (g := gb593) (o := .cells #[.int .u8 a0_0, .int .i64 a0_1, .string a0_2] 25 (0, 0)) (by (with_reducible repeat (first | refine blk_drewN ?_ _ | refine blk_drew ?_ | refine blk_alloc ?_ _)); exact BK593.out)) : gb594 ≠ gb593)); clear BK593; clear HB; have BK593 := n0_; have HB := n1_; have BK594 := n2_; have GW594 := n3_; have GE594 := n4_; have NB593_594 := n5_; have NB594_593 := n6_; clear n0_ n1_ n2_ n3_ n4_ n5_ n6_; clear hb hbox hg))
  (try simp only [Act.put, List.setIfInBounds_toArray, List.set_cons_zero, List.set_cons_succ])
  go_cut [6] (fun v6 wc => ∃ (kq : Nat) (x6_2 : Bool), v6 = .bool x6_2 ∧ Aside0 (value_As.j0 kq a1 x6_2 a0_0 a0_1 a0_2 = some (r1, r2, r3, r4)) ∧ Aside0 (kq ≤ k) ∧ Aside0 (wc.heap[gb593]? = some (.cells #[.int .u8 a0_0, .int .i64 a0_1, .string a0_2] 25 (0, 0))) ∧ Aside0 (wc.heap[gb594]? = some (.cells #[.int .u8 0, .int .i64 0, .string (⟨#[]⟩ : ByteArray)] 25 (0, 0))) ∧ Aside0 (Below w.heap.size w wc))
  case first =>
    have H := HC3.out
    clear HC3
    replace H := Option.bind_eq_some_iff.mp H
    obtain ⟨t595, A60, H⟩ := H
    replace H : (if t595 = true then (if a1 < 1 then (value_As.j0 k a1 true a0_0 a0_1 a0_2) else (value_As.j0 k a1 (decide (a1 > 5)) a0_0 a0_1 a0_2)) else (value_As.j0 k a1 true a0_0 a0_1 a0_2)) = some (r1, r2, r3, r4) := H
    have A6 := Aside0.mk A60
    clear A60
    by_cases c7 : t595 = true
    · subst c7
      have H1 : (if a1 < 1 then (value_As.j0 k a1 true a0_0 a0_1 a0_2) else (value_As.j0 k a1 (decide (a1 > 5)) a0_0 a0_1 a0_2)) = some (r1, r2, r3, r4) := by rw [if_pos rfl] at H; exact H
      clear H
      have H := H1
      clear H1
      by_cases c8 : a1 < 1
      · rw [if_pos c8] at H
        have c8b0 : decide (a1 < 1) = true := decide_eq_true c8
        clear c8
        (first | rw [c8b0] | (simp only [i64_w, i32_w]; rw [c8b0]) | skip)
        have H' := Aside0.mk H
        clear H
        have hnb9 := NB593_594.out
        have hnc9 := NB594_593.out
        have hcz10_0 : w5.cell? ⟨gb593, 0, none⟩ = some (.int .u8 a0_0) := (blk_cell BK593.out 0).trans rfl
        have hcz10_1 : w5.cell? ⟨gb593, 1, none⟩ = some (.int .i64 a0_1) := (blk_cell BK593.out 1).trans rfl
        have hcz10_2 : w5.cell? ⟨gb593, 2, none⟩ = some (.string a0_2) := (blk_cell BK593.out 2).trans rfl
        have hfz10_0 := blk_frozen BK593.out 0
        have hfz10_1 := blk_frozen BK593.out 1
        have hfz10_2 := blk_frozen BK593.out 2
        go_wp2_with (first | ((with_reducible refine gate_callee (f := 13) rfl ?_); refine goesL_ (some 8) rfl rfl Tryd.func13 (by kernel_rfl) rfl #[.agg #[.int .u8 a0_0, .int .i64 a0_1, .string a0_2]] rfl (by (try simp only [List.map_toArray, List.map_cons, List.map_nil]); first | done | rfl | (simp only [List.length_drop, List.length_take]; rfl)) ?_; (with_reducible refine (value_Right.calls k a0_0 a0_1 a0_2 true _ A6.out).mono ?_); rintro e w11 ⟨rfl, hb⟩; refine ⟨_, rfl, ?_⟩; have n0_ := Aside0.mk (blk_below (g := gb593) (o := .cells #[.int .u8 a0_0, .int .i64 a0_1, .string a0_2] 25 (0, 0)) (by (with_reducible repeat (first | refine blk_drewN ?_ _ | refine blk_drew ?_ | refine blk_alloc ?_ _)); exact BK593.out) hb); have n1_ := Aside0.mk (blk_below (g := gb594) (o := .cells #[.int .u8 0, .int .i64 0, .string (⟨#[]⟩ : ByteArray)] 25 (0, 0)) (by (with_reducible repeat (first | refine blk_drewN ?_ _ | refine blk_drew ?_ | refine blk_alloc ?_ _)); exact BK594.out) hb); have n2_ := Aside0.mk (below_step (by repeat (first | (with_reducible first | exact HB.out | apply below_alloc | apply pw_below_drewN | apply below_drew1 | refine below_set ?_ GE593.out | refine below_set ?_ GE594.out) | exact HB.out)) hb); clear BK593; clear BK594; clear HB; have BK593 := n0_; have BK594 := n1_; have HB := n2_; clear n0_ n1_ n2_; (try clear hb); (try clear hb2); (try clear hk); (try clear hi)))
        go_meet
        case rel => exact ⟨_, (true), (by first | rfl | (simp; done) | (simp [*]; done)), H', ⟨by first | omega | exact Nat.le_refl _⟩, ⟨by (with_reducible repeat (first | refine blk_drewN ?_ _ | refine blk_drew ?_ | refine blk_alloc ?_ _)); exact BK593.out⟩, ⟨by (with_reducible repeat (first | refine blk_drewN ?_ _ | refine blk_drew ?_ | refine blk_alloc ?_ _)); exact BK594.out⟩, ⟨by repeat (first | (with_reducible first | exact HB.out | apply below_alloc | apply pw_below_drewN | apply below_drew1 | refine below_set ?_ GE593.out | refine below_set ?_ GE594.out) | exact HB.out)⟩⟩
      · rw [if_neg c8] at H
        have c8b0 : decide (a1 < 1) = false := decide_eq_false c8
        clear c8
        (first | rw [c8b0] | (simp only [i64_w, i32_w]; rw [c8b0]) | skip)
        have H' := Aside0.mk H
        clear H
        have hnb12 := NB593_594.out
        have hnc12 := NB594_593.out
        have hcz13_0 : w5.cell? ⟨gb593, 0, none⟩ = some (.int .u8 a0_0) := (blk_cell BK593.out 0).trans rfl
        have hcz13_1 : w5.cell? ⟨gb593, 1, none⟩ = some (.int .i64 a0_1) := (blk_cell BK593.out 1).trans rfl
        have hcz13_2 : w5.cell? ⟨gb593, 2, none⟩ = some (.string a0_2) := (blk_cell BK593.out 2).trans rfl
        have hfz13_0 := blk_frozen BK593.out 0
        have hfz13_1 := blk_frozen BK593.out 1
        have hfz13_2 := blk_frozen BK593.out 2
        go_wp2_with (first | ((with_reducible refine gate_callee (f := 13) rfl ?_); refine goesL_ (some 8) rfl rfl Tryd.func13 (by kernel_rfl) rfl #[.agg #[.int .u8 a0_0, .int .i64 a0_1, .string a0_2]] rfl (by (try simp only [List.map_toArray, List.map_cons, List.map_nil]); first | done | rfl | (simp only [List.length_drop, List.length_take]; rfl)) ?_; (with_reducible refine (value_Right.calls k a0_0 a0_1 a0_2 true _ A6.out).mono ?_); rintro e w14 ⟨rfl, hb⟩; refine ⟨_, rfl, ?_⟩; have n0_ := Aside0.mk (blk_below (g := gb593) (o := .cells #[.int .u8 a0_0, .int .i64 a0_1, .string a0_2] 25 (0, 0)) (by (with_reducible repeat (first | refine blk_drewN ?_ _ | refine blk_drew ?_ | refine blk_alloc ?_ _)); exact BK593.out) hb); have n1_ := Aside0.mk (blk_below (g := gb594) (o := .cells #[.int .u8 0, .int .i64 0, .string (⟨#[]⟩ : ByteArray)] 25 (0, 0)) (by (with_reducible repeat (first | refine blk_drewN ?_ _ | refine blk_drew ?_ | refine blk_alloc ?_ _)); exact BK594.out) hb); have n2_ := Aside0.mk (below_step (by repeat (first | (with_reducible first | exact HB.out | apply below_alloc | apply pw_below_drewN | apply below_drew1 | refine below_set ?_ GE593.out | refine below_set ?_ GE594.out) | exact HB.out)) hb); clear BK593; clear BK594; clear HB; have BK593 := n0_; have BK594 := n1_; have HB := n2_; clear n0_ n1_ n2_; (try clear hb); (try clear hb2); (try clear hk); (try clear hi)))
        go_meet
        case rel => exact ⟨_, (decide (a1 > 5)), (by first | rfl | (simp; done) | (simp [*]; done)), H', ⟨by first | omega | exact Nat.le_refl _⟩, ⟨by (with_reducible repeat (first | refine blk_drewN ?_ _ | refine blk_drew ?_ | refine blk_alloc ?_ _)); exact BK593.out⟩, ⟨by (with_reducible repeat (first | refine blk_drewN ?_ _ | refine blk_drew ?_ | refine blk_alloc ?_ _)); exact BK594.out⟩, ⟨by repeat (first | (with_reducible first | exact HB.out | apply below_alloc | apply pw_below_drewN | apply below_drew1 | refine below_set ?_ GE593.out | refine below_set ?_ GE594.out) | exact HB.out)⟩⟩
    · replace c7 := Bool.eq_false_iff.mpr c7
      subst c7
      have H1 : (value_As.j0 k a1 true a0_0 a0_1 a0_2) = some (r1, r2, r3, r4) := by rw [if_neg (show ¬ (false = true) by decide)] at H; exact H
      clear H
      have H := H1
      clear H1
      have H' := Aside0.mk H
      clear H
      have hnb15 := NB593_594.out
      have hnc15 := NB594_593.out
      have hcz16_0 : w5.cell? ⟨gb593, 0, none⟩ = some (.int .u8 a0_0) := (blk_cell BK593.out 0).trans rfl
      have hcz16_1 : w5.cell? ⟨gb593, 1, none⟩ = some (.int .i64 a0_1) := (blk_cell BK593.out 1).trans rfl
      have hcz16_2 : w5.cell? ⟨gb593, 2, none⟩ = some (.string a0_2) := (blk_cell BK593.out 2).trans rfl
      have hfz16_0 := blk_frozen BK593.out 0
      have hfz16_1 := blk_frozen BK593.out 1
      have hfz16_2 := blk_frozen BK593.out 2
      go_wp2_with (first | ((with_reducible refine gate_callee (f := 13) rfl ?_); refine goesL_ (some 8) rfl rfl Tryd.func13 (by kernel_rfl) rfl #[.agg #[.int .u8 a0_0, .int .i64 a0_1, .string a0_2]] rfl (by (try simp only [List.map_toArray, List.map_cons, List.map_nil]); first | done | rfl | (simp only [List.length_drop, List.length_take]; rfl)) ?_; (with_reducible refine (value_Right.calls k a0_0 a0_1 a0_2 false _ A6.out).mono ?_); rintro e w17 ⟨rfl, hb⟩; refine ⟨_, rfl, ?_⟩; have n0_ := Aside0.mk (blk_below (g := gb593) (o := .cells #[.int .u8 a0_0, .int .i64 a0_1, .string a0_2] 25 (0, 0)) (by (with_reducible repeat (first | refine blk_drewN ?_ _ | refine blk_drew ?_ | refine blk_alloc ?_ _)); exact BK593.out) hb); have n1_ := Aside0.mk (blk_below (g := gb594) (o := .cells #[.int .u8 0, .int .i64 0, .string (⟨#[]⟩ : ByteArray)] 25 (0, 0)) (by (with_reducible repeat (first | refine blk_drewN ?_ _ | refine blk_drew ?_ | refine blk_alloc ?_ _)); exact BK594.out) hb); have n2_ := Aside0.mk (below_step (by repeat (first | (with_reducible first | exact HB.out | apply below_alloc | apply pw_below_drewN | apply below_drew1 | refine below_set ?_ GE593.out | refine below_set ?_ GE594.out) | exact HB.out)) hb); clear BK593; clear BK594; clear HB; have BK593 := n0_; have BK594 := n1_; have HB := n2_; clear n0_ n1_ n2_; (try clear hb); (try clear hb2); (try clear hk); (try clear hi)))
      go_meet
      case rel => exact ⟨_, (true), (by first | rfl | (simp; done) | (simp [*]; done)), H', ⟨by first | omega | exact Nat.le_refl _⟩, ⟨by (with_reducible repeat (first | refine blk_drewN ?_ _ | refine blk_drew ?_ | refine blk_alloc ?_ _)); exact BK593.out⟩, ⟨by (with_reducible repeat (first | refine blk_drewN ?_ _ | refine blk_drew ?_ | refine blk_alloc ?_ _)); exact BK594.out⟩, ⟨by repeat (first | (with_reducible first | exact HB.out | apply below_alloc | apply pw_below_drewN | apply below_drew1 | refine below_set ?_ GE593.out | refine below_set ?_ GE594.out) | exact HB.out)⟩⟩
  case rest =>
    clear HC3
    try clear c1
    try clear p2
    try clear c3
    try clear c7
    try clear c8
    try clear c8b0
    try clear c9
    try clear c12
    try clear c13
    try clear c15
    try clear hcz10_0
    try clear hcz10_1
    try clear hcz10_2
    try clear hcz13_0
    try clear hcz13_1
    try clear hcz13_2
    try clear hcz16_0
    try clear hcz16_1
    try clear hcz16_2
    try clear hfz10_0
    try clear hfz10_1
    try clear hfz10_2
    try clear hfz13_0
    try clear hfz13_1
    try clear hfz13_2
    try clear hfz16_0
    try clear hfz16_1
    try clear hfz16_2
    obtain ⟨kq, x6_2, rfl, HA, HJ2, BK593, BK594, HB⟩ := hcut
    cases kq with
    | zero => exact absurd HA.out (by simp [value_As.j0])
    | succ kj2 =>
      have H := HA.out
      clear HA
      simp only [value_As.j0] at H
      by_cases c18 : x6_2 = true
      · subst c18
        have H1 : (some (0, 0, (⟨#[]⟩ : ByteArray), 2)) = some (r1, r2, r3, r4) := by rw [if_pos rfl] at H; exact H
        clear H
        have H := H1
        clear H1
        simp only [Option.some.injEq, Prod.mk.injEq] at H
        obtain ⟨rfl, rfl, rfl, rfl⟩ := H
        have hnb19 := NB594_593.out
        have hnc19 := NB593_594.out
        have hcz20_0 : wc.cell? ⟨gb594, 0, none⟩ = some (.int .u8 0) := (blk_cell BK594.out 0).trans rfl
        have hcz20_1 : wc.cell? ⟨gb594, 1, none⟩ = some (.int .i64 0) := (blk_cell BK594.out 1).trans rfl
        have hcz20_2 : wc.cell? ⟨gb594, 2, none⟩ = some (.string (⟨#[]⟩ : ByteArray)) := (blk_cell BK594.out 2).trans rfl
        have hfz20_0 := blk_frozen BK594.out 0
        have hfz20_1 := blk_frozen BK594.out 1
        have hfz20_2 := blk_frozen BK594.out 2
        go_wp2
        refine bodyPost_ret (results_ct rfl _ _ gb594 25 #[.int .u8 0, .int .i64 0, .string (⟨#[]⟩ : ByteArray)] (0, 0) _ rfl (by (with_reducible repeat (first | refine blk_drewN ?_ _ | refine blk_drew ?_ | refine blk_alloc ?_ _)); refine blk_put (cs := #[.int .u8 0, .int .i64 0, .string (⟨#[]⟩ : ByteArray)]) ?_ 2 _ rfl; (with_reducible repeat (first | refine blk_drewN ?_ _ | refine blk_drew ?_ | refine blk_alloc ?_ _)); refine blk_put (cs := #[.int .u8 0, .int .i64 0, .string (⟨#[]⟩ : ByteArray)]) ?_ 1 _ rfl; (with_reducible repeat (first | refine blk_drewN ?_ _ | refine blk_drew ?_ | refine blk_alloc ?_ _)); refine blk_put (cs := #[.int .u8 0, .int .i64 0, .string (⟨#[]⟩ : ByteArray)]) ?_ 0 _ rfl; (with_reducible repeat (first | refine blk_drewN ?_ _ | refine blk_drew ?_ | refine blk_alloc ?_ _)); exact BK594.out) Tryd.underlying25 rfl (by kernel_rfl)) rfl ?_
        exact ⟨by first | rfl | (simp [errW_none, errW_some] <;> rfl) | (simp [*, errW_none, errW_some] <;> rfl), by repeat (first | (with_reducible first | exact HB.out | apply below_alloc | apply pw_below_drewN | apply below_drew1 | refine below_set ?_ GE593.out | refine below_set ?_ GE594.out) | exact HB.out)⟩
      · replace c18 := Bool.eq_false_iff.mpr c18
        subst c18
        have H1 : (if a0_0 = 0 then (value_As.j1 kj2 a1 true a0_0 a0_1 a0_2) else (value_As.j1 kj2 a1 (a0_0 == a1) a0_0 a0_1 a0_2)) = some (r1, r2, r3, r4) := by rw [if_neg (show ¬ (false = true) by decide)] at H; exact H
        clear H
        have H := H1
        clear H1
        have HC21 := Aside0.mk H
        clear H
        go_upto_region 3 with (fail)
        go_cut [19] (fun v19 wc => ∃ (kq : Nat) (x19_20 : Bool), v19 = .bool x19_20 ∧ Aside0 (value_As.j1 kq a1 x19_20 a0_0 a0_1 a0_2 = some (r1, r2, r3, r4)) ∧ Aside0 (kq ≤ kj2) ∧ Aside0 (wc.heap[gb593]? = some (.cells #[.int .u8 a0_0, .int .i64 a0_1, .string a0_2] 25 (0, 0))) ∧ Aside0 (wc.heap[gb594]? = some (.cells #[.int .u8 0, .int .i64 0, .string (⟨#[]⟩ : ByteArray)] 25 (0, 0))) ∧ Aside0 (Below w.heap.size w wc))
        case first =>
          have H := HC21.out
          clear HC21
          by_cases c22 : a0_0 = 0
          · rw [if_pos c22] at H
            have c22b0 : (a0_0 == 0) = true := beq_iff_eq.mpr c22
            have c22b1 : (a0_0 != 0) = false := bne_eq_false_iff_eq.mpr c22
            clear c22
            (first | rw [c22b0] | (simp only [i64_w, i32_w]; rw [c22b0]) | skip)
            have H' := Aside0.mk H
            clear H
            have hnb23 := NB593_594.out
            have hnc23 := NB594_593.out
            have hcz24_0 : wc.cell? ⟨gb593, 0, none⟩ = some (.int .u8 a0_0) := (blk_cell BK593.out 0).trans rfl
            have hcz24_1 : wc.cell? ⟨gb593, 1, none⟩ = some (.int .i64 a0_1) := (blk_cell BK593.out 1).trans rfl
            have hcz24_2 : wc.cell? ⟨gb593, 2, none⟩ = some (.string a0_2) := (blk_cell BK593.out 2).trans rfl
            have hfz24_0 := blk_frozen BK593.out 0
            have hfz24_1 := blk_frozen BK593.out 1
            have hfz24_2 := blk_frozen BK593.out 2
            go_wp2
            go_meet
            case rel => exact ⟨_, (true), (by first | rfl | (simp; done) | (simp [*]; done)), H', ⟨by have := HJ2.out; first | omega | exact Nat.le_refl _⟩, ⟨by (with_reducible repeat (first | refine blk_drewN ?_ _ | refine blk_drew ?_ | refine blk_alloc ?_ _)); exact BK593.out⟩, ⟨by (with_reducible repeat (first | refine blk_drewN ?_ _ | refine blk_drew ?_ | refine blk_alloc ?_ _)); exact BK594.out⟩, ⟨by repeat (first | (with_reducible first | exact HB.out | apply below_alloc | apply pw_below_drewN | apply below_drew1 | refine below_set ?_ GE593.out | refine below_set ?_ GE594.out) | exact HB.out)⟩⟩
          · rw [if_neg c22] at H
            have c22b0 : (a0_0 == 0) = false := beq_eq_false_iff_ne.mpr c22
            have c22b1 : (a0_0 != 0) = true := bne_iff_ne.mpr c22
            (first | rw [c22b0] | (simp only [i64_w, i32_w]; rw [c22b0]) | skip)
            have H' := Aside0.mk H
            clear H
            have hnb25 := NB593_594.out
            have hnc25 := NB594_593.out
            have hcz26_0 : wc.cell? ⟨gb593, 0, none⟩ = some (.int .u8 a0_0) := (blk_cell BK593.out 0).trans rfl
            have hcz26_1 : wc.cell? ⟨gb593, 1, none⟩ = some (.int .i64 a0_1) := (blk_cell BK593.out 1).trans rfl
            have hcz26_2 : wc.cell? ⟨gb593, 2, none⟩ = some (.string a0_2) := (blk_cell BK593.out 2).trans rfl
            have hfz26_0 := blk_frozen BK593.out 0
            have hfz26_1 := blk_frozen BK593.out 1
            have hfz26_2 := blk_frozen BK593.out 2
            go_wp2
            go_meet
            case rel => exact ⟨_, ((a0_0 == a1)), (by first | rfl | (simp; done) | (simp [*]; done)), H', ⟨by have := HJ2.out; first | omega | exact Nat.le_refl _⟩, ⟨by (with_reducible repeat (first | refine blk_drewN ?_ _ | refine blk_drew ?_ | refine blk_alloc ?_ _)); exact BK593.out⟩, ⟨by (with_reducible repeat (first | refine blk_drewN ?_ _ | refine blk_drew ?_ | refine blk_alloc ?_ _)); exact BK594.out⟩, ⟨by repeat (first | (with_reducible first | exact HB.out | apply below_alloc | apply pw_below_drewN | apply below_drew1 | refine below_set ?_ GE593.out | refine below_set ?_ GE594.out) | exact HB.out)⟩⟩
        case rest =>
          clear HC21
          try clear c1
          try clear c2
          try clear p2
          try clear c3
          try clear c7
          try clear c8
          try clear c8b0
          try clear c9
          try clear c12
          try clear c13
          try clear c15
          try clear c18
          try clear c19
          try clear c22
          try clear c22b0
          try clear c22b1
          try clear c23
          try clear c25
          try clear hcz10_0
          try clear hcz10_1
          try clear hcz10_2
          try clear hcz13_0
          try clear hcz13_1
          try clear hcz13_2
          try clear hcz16_0
          try clear hcz16_1
          try clear hcz16_2
          try clear hcz20_0
          try clear hcz20_1
          try clear hcz20_2
          try clear hcz24_0
          try clear hcz24_1
          try clear hcz24_2
          try clear hcz26_0
          try clear hcz26_1
          try clear hcz26_2
          try clear hfz10_0
          try clear hfz10_1
          try clear hfz10_2
          try clear hfz13_0
          try clear hfz13_1
          try clear hfz13_2
          try clear hfz16_0
          try clear hfz16_1
          try clear hfz16_2
          try clear hfz20_0
          try clear hfz20_1
          try clear hfz20_2
          try clear hfz24_0
          try clear hfz24_1
          try clear hfz24_2
          try clear hfz26_0
          try clear hfz26_1
          try clear hfz26_2
          try clear p2
          obtain ⟨kq, x19_20, rfl, HA, HJ20, BK593, BK594, HB⟩ := hcut
          cases kq with
          | zero => exact absurd HA.out (by simp [value_As.j1])
          | succ kj20 =>
            have H := HA.out
            clear HA
            simp only [value_As.j1] at H
            by_cases c27 : x19_20 = true
            · subst c27
              have H1 : (some (a0_0, a0_1, a0_2, 0)) = some (r1, r2, r3, r4) := by rw [if_pos rfl] at H; exact H
              clear H
              have H := H1
              clear H1
              simp only [Option.some.injEq, Prod.mk.injEq] at H
              obtain ⟨rfl, rfl, rfl, rfl⟩ := H
              have hnb28 := NB593_594.out
              have hnc28 := NB594_593.out
              have hcz29_0 : wc.cell? ⟨gb593, 0, none⟩ = some (.int .u8 a0_0) := (blk_cell BK593.out 0).trans rfl
              have hcz29_1 : wc.cell? ⟨gb593, 1, none⟩ = some (.int .i64 a0_1) := (blk_cell BK593.out 1).trans rfl
              have hcz29_2 : wc.cell? ⟨gb593, 2, none⟩ = some (.string a0_2) := (blk_cell BK593.out 2).trans rfl
              have hfz29_0 := blk_frozen BK593.out 0
              have hfz29_1 := blk_frozen BK593.out 1
              have hfz29_2 := blk_frozen BK593.out 2
              have hcz30_0 : wc.cell? ⟨gb594, 0, none⟩ = some (.int .u8 0) := (blk_cell BK594.out 0).trans rfl
              have hcz30_1 : wc.cell? ⟨gb594, 1, none⟩ = some (.int .i64 0) := (blk_cell BK594.out 1).trans rfl
              have hcz30_2 : wc.cell? ⟨gb594, 2, none⟩ = some (.string (⟨#[]⟩ : ByteArray)) := (blk_cell BK594.out 2).trans rfl
              have hfz30_0 := blk_frozen BK594.out 0
              have hfz30_1 := blk_frozen BK594.out 1
              have hfz30_2 := blk_frozen BK594.out 2
              go_wp2
              refine bodyPost_ret (results_ct rfl _ _ gb594 25 #[.int .u8 a0_0, .int .i64 a0_1, .string a0_2] (0, 0) _ rfl (by (with_reducible repeat (first | refine blk_drewN ?_ _ | refine blk_drew ?_ | refine blk_alloc ?_ _)); refine blk_put (cs := #[.int .u8 a0_0, .int .i64 a0_1, .string (⟨#[]⟩ : ByteArray)]) ?_ 2 _ rfl; (with_reducible repeat (first | refine blk_drewN ?_ _ | refine blk_drew ?_ | refine blk_alloc ?_ _)); refine blk_put (cs := #[.int .u8 a0_0, .int .i64 0, .string (⟨#[]⟩ : ByteArray)]) ?_ 1 _ rfl; (with_reducible repeat (first | refine blk_drewN ?_ _ | refine blk_drew ?_ | refine blk_alloc ?_ _)); refine blk_put (cs := #[.int .u8 0, .int .i64 0, .string (⟨#[]⟩ : ByteArray)]) ?_ 0 _ rfl; (with_reducible repeat (first | refine blk_drewN ?_ _ | refine blk_drew ?_ | refine blk_alloc ?_ _)); exact BK594.out) Tryd.underlying25 rfl (by kernel_rfl)) rfl ?_
              exact ⟨by first | rfl | (simp [errW_none, errW_some] <;> rfl) | (simp [*, errW_none, errW_some] <;> rfl), by repeat (first | (with_reducible first | exact HB.out | apply below_alloc | apply pw_below_drewN | apply below_drew1 | refine below_set ?_ GE593.out | refine below_set ?_ GE594.out) | exact HB.out)⟩
            · replace c27 := Bool.eq_false_iff.mpr c27
              subst c27
              have H1 : (if a0_0 = 2 then (value_As.j2 kj20 (a1 == 3) a0_0 a0_1 a0_2) else (value_As.j2 kj20 false a0_0 a0_1 a0_2)) = some (r1, r2, r3, r4) := by rw [if_neg (show ¬ (false = true) by decide)] at H; exact H
              clear H
              have H := H1
              clear H1
              have HC31 := Aside0.mk H
              clear H
              go_upto_region 5 with (fail)
              go_cut [30] (fun v30 wc => ∃ (kq : Nat) (x30_30 : Bool), v30 = .bool x30_30 ∧ Aside0 (value_As.j2 kq x30_30 a0_0 a0_1 a0_2 = some (r1, r2, r3, r4)) ∧ Aside0 (kq ≤ kj20) ∧ Aside0 (wc.heap[gb593]? = some (.cells #[.int .u8 a0_0, .int .i64 a0_1, .string a0_2] 25 (0, 0))) ∧ Aside0 (wc.heap[gb594]? = some (.cells #[.int .u8 0, .int .i64 0, .string (⟨#[]⟩ : ByteArray)] 25 (0, 0))) ∧ Aside0 (Below w.heap.size w wc))
              case first =>
                have H := HC31.out
                clear HC31
                by_cases c32 : a0_0 = 2
                · rw [if_pos c32] at H
                  have c32b0 : (a0_0 == 2) = true := beq_iff_eq.mpr c32
                  have c32b1 : (a0_0 != 2) = false := bne_eq_false_iff_eq.mpr c32
                  clear c32
                  (first | rw [c32b0] | (simp only [i64_w, i32_w]; rw [c32b0]) | skip)
                  have H' := Aside0.mk H
                  clear H
                  have hnb33 := NB593_594.out
                  have hnc33 := NB594_593.out
                  have hcz34_0 : wc.cell? ⟨gb593, 0, none⟩ = some (.int .u8 a0_0) := (blk_cell BK593.out 0).trans rfl
                  have hcz34_1 : wc.cell? ⟨gb593, 1, none⟩ = some (.int .i64 a0_1) := (blk_cell BK593.out 1).trans rfl
                  have hcz34_2 : wc.cell? ⟨gb593, 2, none⟩ = some (.string a0_2) := (blk_cell BK593.out 2).trans rfl
                  have hfz34_0 := blk_frozen BK593.out 0
                  have hfz34_1 := blk_frozen BK593.out 1
                  have hfz34_2 := blk_frozen BK593.out 2
                  go_wp2
                  go_meet
                  case rel => exact ⟨_, ((a1 == 3)), (by first | rfl | (simp; done) | (simp [*]; done)), H', ⟨by have := HJ2.out; have := HJ20.out; first | omega | exact Nat.le_refl _⟩, ⟨by (with_reducible repeat (first | refine blk_drewN ?_ _ | refine blk_drew ?_ | refine blk_alloc ?_ _)); exact BK593.out⟩, ⟨by (with_reducible repeat (first | refine blk_drewN ?_ _ | refine blk_drew ?_ | refine blk_alloc ?_ _)); exact BK594.out⟩, ⟨by repeat (first | (with_reducible first | exact HB.out | apply below_alloc | apply pw_below_drewN | apply below_drew1 | refine below_set ?_ GE593.out | refine below_set ?_ GE594.out) | exact HB.out)⟩⟩
                · rw [if_neg c32] at H
                  have c32b0 : (a0_0 == 2) = false := beq_eq_false_iff_ne.mpr c32
                  have c32b1 : (a0_0 != 2) = true := bne_iff_ne.mpr c32
                  (first | rw [c32b0] | (simp only [i64_w, i32_w]; rw [c32b0]) | skip)
                  have H' := Aside0.mk H
                  clear H
                  have hnb35 := NB593_594.out
                  have hnc35 := NB594_593.out
                  have hcz36_0 : wc.cell? ⟨gb593, 0, none⟩ = some (.int .u8 a0_0) := (blk_cell BK593.out 0).trans rfl
                  have hcz36_1 : wc.cell? ⟨gb593, 1, none⟩ = some (.int .i64 a0_1) := (blk_cell BK593.out 1).trans rfl
                  have hcz36_2 : wc.cell? ⟨gb593, 2, none⟩ = some (.string a0_2) := (blk_cell BK593.out 2).trans rfl
                  have hfz36_0 := blk_frozen BK593.out 0
                  have hfz36_1 := blk_frozen BK593.out 1
                  have hfz36_2 := blk_frozen BK593.out 2
                  go_wp2
                  go_meet
                  case rel => exact ⟨_, (false), (by first | rfl | (simp; done) | (simp [*]; done)), H', ⟨by have := HJ2.out; have := HJ20.out; first | omega | exact Nat.le_refl _⟩, ⟨by (with_reducible repeat (first | refine blk_drewN ?_ _ | refine blk_drew ?_ | refine blk_alloc ?_ _)); exact BK593.out⟩, ⟨by (with_reducible repeat (first | refine blk_drewN ?_ _ | refine blk_drew ?_ | refine blk_alloc ?_ _)); exact BK594.out⟩, ⟨by repeat (first | (with_reducible first | exact HB.out | apply below_alloc | apply pw_below_drewN | apply below_drew1 | refine below_set ?_ GE593.out | refine below_set ?_ GE594.out) | exact HB.out)⟩⟩
              case rest =>
                clear HC31
                try clear c1
                try clear c2
                try clear p2
                try clear c3
                try clear c7
                try clear c8
                try clear c8b0
                try clear c9
                try clear c12
                try clear c13
                try clear c15
                try clear c18
                try clear c19
                try clear c22
                try clear c22b0
                try clear c22b1
                try clear c23
                try clear c25
                try clear c27
                try clear c28
                try clear c30
                try clear c32
                try clear c32b0
                try clear c32b1
                try clear c33
                try clear c35
                try clear hcz10_0
                try clear hcz10_1
                try clear hcz10_2
                try clear hcz13_0
                try clear hcz13_1
                try clear hcz13_2
                try clear hcz16_0
                try clear hcz16_1
                try clear hcz16_2
                try clear hcz20_0
                try clear hcz20_1
                try clear hcz20_2
                try clear hcz24_0
                try clear hcz24_1
                try clear hcz24_2
                try clear hcz26_0
                try clear hcz26_1
                try clear hcz26_2
                try clear hcz29_0
                try clear hcz29_1
                try clear hcz29_2
                try clear hcz30_0
                try clear hcz30_1
                try clear hcz30_2
                try clear hcz34_0
                try clear hcz34_1
                try clear hcz34_2
                try clear hcz36_0
                try clear hcz36_1
                try clear hcz36_2
                try clear hfz10_0
                try clear hfz10_1
                try clear hfz10_2
                try clear hfz13_0
                try clear hfz13_1
                try clear hfz13_2
                try clear hfz16_0
                try clear hfz16_1
                try clear hfz16_2
                try clear hfz20_0
                try clear hfz20_1
                try clear hfz20_2
                try clear hfz24_0
                try clear hfz24_1
                try clear hfz24_2
                try clear hfz26_0
                try clear hfz26_1
                try clear hfz26_2
                try clear hfz29_0
                try clear hfz29_1
                try clear hfz29_2
                try clear hfz30_0
                try clear hfz30_1
                try clear hfz30_2
                try clear hfz34_0
                try clear hfz34_1
                try clear hfz34_2
                try clear hfz36_0
                try clear hfz36_1
                try clear hfz36_2
                try clear p2
                obtain ⟨kq, x30_30, rfl, HA, HJ30, BK593, BK594, HB⟩ := hcut
                cases kq with
                | zero => exact absurd HA.out (by simp [value_As.j2])
                | succ kj30 =>
                  have H := HA.out
                  clear HA
                  simp only [value_As.j2] at H
                  by_cases c37 : x30_30 = true
                  · subst c37
                    have H1 : ((value_fixed.f a0_0 a0_1 a0_2).bind fun bt596 => ((value_wide_told.f bt596.1 bt596.2 3).bind fun bt598 => (some (bt598.1, bt598.2.1, bt598.2.2.1, bt598.2.2.2)))) = some (r1, r2, r3, r4) := by rw [if_pos rfl] at H; exact H
                    clear H
                    have H := H1
                    clear H1
                    replace H := Option.bind_eq_some_iff.mp H
                    obtain ⟨⟨t596, t597⟩, A380, H⟩ := H
                    replace H : ((value_wide_told.f t596 t597 3).bind fun bt598 => (some (bt598.1, bt598.2.1, bt598.2.2.1, bt598.2.2.2))) = some (r1, r2, r3, r4) := H
                    have A38 := Aside0.mk A380
                    clear A380
                    replace H := Option.bind_eq_some_iff.mp H
                    obtain ⟨⟨t598, t599, t600, t601⟩, A390, H⟩ := H
                    replace H : (some (t598, t599, t600, t601)) = some (r1, r2, r3, r4) := H
                    have A39 := Aside0.mk A390
                    clear A390
                    simp only [Option.some.injEq, Prod.mk.injEq] at H
                    obtain ⟨rfl, rfl, rfl, rfl⟩ := H
                    have hnb40 := NB593_594.out
                    have hnc40 := NB594_593.out
                    have hcz41_0 : wc.cell? ⟨gb593, 0, none⟩ = some (.int .u8 a0_0) := (blk_cell BK593.out 0).trans rfl
                    have hcz41_1 : wc.cell? ⟨gb593, 1, none⟩ = some (.int .i64 a0_1) := (blk_cell BK593.out 1).trans rfl
                    have hcz41_2 : wc.cell? ⟨gb593, 2, none⟩ = some (.string a0_2) := (blk_cell BK593.out 2).trans rfl
                    have hfz41_0 := blk_frozen BK593.out 0
                    have hfz41_1 := blk_frozen BK593.out 1
                    have hfz41_2 := blk_frozen BK593.out 2
                    go_wp2_with (first | ((with_reducible refine gate_callee (f := 39) rfl ?_); refine goesL_ (some 39) rfl rfl Tryd.func39 (by kernel_rfl) rfl #[.agg #[.int .u8 a0_0, .int .i64 a0_1, .string a0_2]] rfl (by (try simp only [List.map_toArray, List.map_cons, List.map_nil]); first | done | rfl | (simp only [List.length_drop, List.length_take]; rfl)) ?_; (with_reducible refine (value_fixed.calls a0_0 a0_1 a0_2 t596 t597 _ A38.out).mono ?_); rintro e w42 ⟨rfl, hb⟩; refine ⟨_, rfl, ?_⟩; have n0_ := Aside0.mk (blk_below (g := gb593) (o := .cells #[.int .u8 a0_0, .int .i64 a0_1, .string a0_2] 25 (0, 0)) (by (with_reducible repeat (first | refine blk_drewN ?_ _ | refine blk_drew ?_ | refine blk_alloc ?_ _)); exact BK593.out) hb); have n1_ := Aside0.mk (blk_below (g := gb594) (o := .cells #[.int .u8 0, .int .i64 0, .string (⟨#[]⟩ : ByteArray)] 25 (0, 0)) (by (with_reducible repeat (first | refine blk_drewN ?_ _ | refine blk_drew ?_ | refine blk_alloc ?_ _)); exact BK594.out) hb); have n2_ := Aside0.mk (below_step (by repeat (first | (with_reducible first | exact HB.out | apply below_alloc | apply pw_below_drewN | apply below_drew1 | refine below_set ?_ GE593.out | refine below_set ?_ GE594.out) | exact HB.out)) hb); clear BK593; clear BK594; clear HB; have BK593 := n0_; have BK594 := n1_; have HB := n2_; clear n0_ n1_ n2_; (try clear hb); (try clear hb2); (try clear hk); (try clear hi)) | ((with_reducible refine gate_callee (f := 60) rfl ?_); refine goesL_ (some 40) rfl rfl Tryd.func60 (by kernel_rfl) rfl #[.agg #[.int .i64 t596, .int .u64 t597], .int .u8 3] rfl (by (try simp only [List.map_toArray, List.map_cons, List.map_nil]); first | done | rfl | (simp only [List.length_drop, List.length_take]; rfl)) ?_; (with_reducible refine (value_wide_told.calls t596 t597 3 t598 t599 t600 t601 _ A39.out).mono ?_); rintro e w43 ⟨rfl, hb⟩; refine ⟨_, rfl, ?_⟩; have n0_ := Aside0.mk (blk_below (g := gb593) (o := .cells #[.int .u8 a0_0, .int .i64 a0_1, .string a0_2] 25 (0, 0)) (by (with_reducible repeat (first | refine blk_drewN ?_ _ | refine blk_drew ?_ | refine blk_alloc ?_ _)); exact BK593.out) hb); have n1_ := Aside0.mk (blk_below (g := gb594) (o := .cells #[.int .u8 0, .int .i64 0, .string (⟨#[]⟩ : ByteArray)] 25 (0, 0)) (by (with_reducible repeat (first | refine blk_drewN ?_ _ | refine blk_drew ?_ | refine blk_alloc ?_ _)); exact BK594.out) hb); have n2_ := Aside0.mk (below_step (by repeat (first | (with_reducible first | exact HB.out | apply below_alloc | apply pw_below_drewN | apply below_drew1 | refine below_set ?_ GE593.out | refine below_set ?_ GE594.out) | exact HB.out)) hb); clear BK593; clear BK594; clear HB; have BK593 := n0_; have BK594 := n1_; have HB := n2_; clear n0_ n1_ n2_; (try clear hb); (try clear hb2); (try clear hk); (try clear hi); have hcz44_0 : w43.cell? ⟨gb594, 0, none⟩ = some (.int .u8 0) := (blk_cell BK594.out 0).trans rfl; have hcz44_1 : w43.cell? ⟨gb594, 1, none⟩ = some (.int .i64 0) := (blk_cell BK594.out 1).trans rfl; have hcz44_2 : w43.cell? ⟨gb594, 2, none⟩ = some (.string (⟨#[]⟩ : ByteArray)) := (blk_cell BK594.out 2).trans rfl; have hfz44_0 := blk_frozen BK594.out 0; have hfz44_1 := blk_frozen BK594.out 1; have hfz44_2 := blk_frozen BK594.out 2))
                    refine bodyPost_ret (results_ct rfl _ _ gb594 25 #[.int .u8 t598, .int .i64 t599, .string t600] (0, 0) _ rfl (by (with_reducible repeat (first | refine blk_drewN ?_ _ | refine blk_drew ?_ | refine blk_alloc ?_ _)); refine blk_put (cs := #[.int .u8 t598, .int .i64 t599, .string (⟨#[]⟩ : ByteArray)]) ?_ 2 _ rfl; (with_reducible repeat (first | refine blk_drewN ?_ _ | refine blk_drew ?_ | refine blk_alloc ?_ _)); refine blk_put (cs := #[.int .u8 t598, .int .i64 0, .string (⟨#[]⟩ : ByteArray)]) ?_ 1 _ rfl; (with_reducible repeat (first | refine blk_drewN ?_ _ | refine blk_drew ?_ | refine blk_alloc ?_ _)); refine blk_put (cs := #[.int .u8 0, .int .i64 0, .string (⟨#[]⟩ : ByteArray)]) ?_ 0 _ rfl; (with_reducible repeat (first | refine blk_drewN ?_ _ | refine blk_drew ?_ | refine blk_alloc ?_ _)); exact BK594.out) Tryd.underlying25 rfl (by kernel_rfl)) rfl ?_
                    exact ⟨by first | rfl | (simp [errW_none, errW_some] <;> rfl) | (simp [*, errW_none, errW_some] <;> rfl), by repeat (first | (with_reducible first | exact HB.out | apply below_alloc | apply pw_below_drewN | apply below_drew1 | refine below_set ?_ GE593.out | refine below_set ?_ GE594.out) | exact HB.out)⟩
                  · replace c37 := Bool.eq_false_iff.mpr c37
                    subst c37
                    have H1 : (some (0, 0, (⟨#[]⟩ : ByteArray), 270)) = some (r1, r2, r3, r4) := by rw [if_neg (show ¬ (false = true) by decide)] at H; exact H
                    clear H
                    have H := H1
                    clear H1
                    simp only [Option.some.injEq, Prod.mk.injEq] at H
                    obtain ⟨rfl, rfl, rfl, rfl⟩ := H
                    have hnb45 := NB594_593.out
                    have hnc45 := NB593_594.out
                    have hcz46_0 : wc.cell? ⟨gb594, 0, none⟩ = some (.int .u8 0) := (blk_cell BK594.out 0).trans rfl
                    have hcz46_1 : wc.cell? ⟨gb594, 1, none⟩ = some (.int .i64 0) := (blk_cell BK594.out 1).trans rfl
                    have hcz46_2 : wc.cell? ⟨gb594, 2, none⟩ = some (.string (⟨#[]⟩ : ByteArray)) := (blk_cell BK594.out 2).trans rfl
                    have hfz46_0 := blk_frozen BK594.out 0
                    have hfz46_1 := blk_frozen BK594.out 1
                    have hfz46_2 := blk_frozen BK594.out 2
                    go_wp2
                    refine bodyPost_ret (results_ct rfl _ _ gb594 25 #[.int .u8 0, .int .i64 0, .string (⟨#[]⟩ : ByteArray)] (0, 0) _ rfl (by (with_reducible repeat (first | refine blk_drewN ?_ _ | refine blk_drew ?_ | refine blk_alloc ?_ _)); refine blk_put (cs := #[.int .u8 0, .int .i64 0, .string (⟨#[]⟩ : ByteArray)]) ?_ 2 _ rfl; (with_reducible repeat (first | refine blk_drewN ?_ _ | refine blk_drew ?_ | refine blk_alloc ?_ _)); refine blk_put (cs := #[.int .u8 0, .int .i64 0, .string (⟨#[]⟩ : ByteArray)]) ?_ 1 _ rfl; (with_reducible repeat (first | refine blk_drewN ?_ _ | refine blk_drew ?_ | refine blk_alloc ?_ _)); refine blk_put (cs := #[.int .u8 0, .int .i64 0, .string (⟨#[]⟩ : ByteArray)]) ?_ 0 _ rfl; (with_reducible repeat (first | refine blk_drewN ?_ _ | refine blk_drew ?_ | refine blk_alloc ?_ _)); exact BK594.out) Tryd.underlying25 rfl (by kernel_rfl)) rfl ?_
                    exact ⟨by first | rfl | (simp [errW_none, errW_some] <;> rfl) | (simp [*, errW_none, errW_some] <;> rfl), by repeat (first | (with_reducible first | exact HB.out | apply below_alloc | apply pw_below_drewN | apply below_drew1 | refine below_set ?_ GE593.out | refine below_set ?_ GE594.out) | exact HB.out)⟩
end Go.Proofs.YtbodlnoipkommaaDoor.Q
namespace Go.Proofs.YtbodlnoipkommaaDoor.Q
open Go.RowKit Go.Proofs.YtbodlnoipkommaaDoorW.PrintWords Go.Proofs.YtbodlnoipkommaaDoorW.PrintLast Go.Proofs.YtbodlnoipkommaaDoorW.PrintMore
attribute [local go_sem] max2_int min2_int max_two min_two max_three min_three max_four min_four   -- for this text's walks alone
set_option linter.unusedVariables false
set_option linter.unusedSimpArgs false
mutual
def chanceryref17_As.j0 : Nat → Int → Bool → Int → Int → ByteArray → Option (Int × Int × ByteArray × Int)
  | 0, _, _, _, _, _ => none
  | k + 1, x1, x6, x603000, x603001, x603002 => if x6 = true then (some (0, 0, (⟨#[]⟩ : ByteArray), 2)) else (if x603000 = 0 then (chanceryref17_As.j1 k x1 true x603000 x603001 x603002) else (chanceryref17_As.j1 k x1 (x603000 == x1) x603000 x603001 x603002))
def chanceryref17_As.j1 : Nat → Int → Bool → Int → Int → ByteArray → Option (Int × Int × ByteArray × Int)
  | 0, _, _, _, _, _ => none
  | k + 1, x1, x19, x603000, x603001, x603002 => if x19 = true then (some (x603000, x603001, x603002, 0)) else (if x603000 = 2 then (chanceryref17_As.j2 k (x1 == 3) x603000 x603001 x603002) else (chanceryref17_As.j2 k false x603000 x603001 x603002))
def chanceryref17_As.j2 : Nat → Bool → Int → Int → ByteArray → Option (Int × Int × ByteArray × Int)
  | 0, _, _, _, _ => none
  | k + 1, x30, x603000, x603001, x603002 => if x30 = true then ((chanceryref17_fixed.f x603000 x603001 x603002).bind fun bt605 => ((chanceryref17_answer.f 3 bt605.1 bt605.2.1 bt605.2.2.1 bt605.2.2.2.1 bt605.2.2.2.2.1 bt605.2.2.2.2.2).bind fun bt611 => (some (bt611.1, bt611.2.1, bt611.2.2.1, bt611.2.2.2)))) else (some (0, 0, (⟨#[]⟩ : ByteArray), 270))
end
def chanceryref17_As.f (k : Nat) (a0_0 : Int) (a0_1 : Int) (a0_2 : ByteArray) (a1 : Int) : Option (Int × Int × ByteArray × Int) := (chanceryref17_Right.f k a0_0 a0_1 a0_2).bind fun t604 => (if t604 = true then (if a1 < 1 then (chanceryref17_As.j0 k a1 true a0_0 a0_1 a0_2) else (chanceryref17_As.j0 k a1 (decide (a1 > 5)) a0_0 a0_1 a0_2)) else (chanceryref17_As.j0 k a1 true a0_0 a0_1 a0_2))
set_option maxHeartbeats 8000000 in
set_option maxRecDepth 100000 in
theorem chanceryref17_As.calls (k : Nat) (a0_0 : Int) (a0_1 : Int) (a0_2 : ByteArray) (a1 : Int) (r1 : Int) (r2 : Int) (r3 : ByteArray) (r4 : Int) (w : World) (h : chanceryref17_As.f k a0_0 a0_1 a0_2 a1 = some (r1, r2, r3, r4)) :
    Calls Tryd.prog 31 #[.agg #[.int .u8 a0_0, .int .i64 a0_1, .string a0_2], .int .u8 a1] w fun e w' => e = .returned (.tuple #[.agg #[.int .u8 r1, .int .i64 r2, .string r3], .int .i64 r4]) ∧ Below w.heap.size w w' := by
  have hu25 := Tryd.underlying25
  have HB := Aside0.mk (Below.refl w.heap.size w)
  have H : ((chanceryref17_Right.f k a0_0 a0_1 a0_2).bind fun t604 => (if t604 = true then (if a1 < 1 then (chanceryref17_As.j0 k a1 true a0_0 a0_1 a0_2) else (chanceryref17_As.j0 k a1 (decide (a1 > 5)) a0_0 a0_1 a0_2)) else (chanceryref17_As.j0 k a1 true a0_0 a0_1 a0_2))) = some (r1, r2, r3, r4) := h
  clear h
  have HC3 := Aside0.mk H
  clear H
  go_enter Tryd.func31, Tryd.ntmps31
  go_upto_region 1 with (first | ((with_reducible refine gate_dst (N := 2) rfl ?_); refine box_event ?hg (N := 2) ?hd (cs := #[.int .u8 a0_0, .int .i64 a0_1, .string a0_2]) (t := 25) ?hr ?_; (case hd => rfl); (case hg => rfl); (case hr => first | (go_simp; done) | (go_simp; rfl)); intro gb602 hg w4 hbox hb; have n0_ := Aside0.mk (below_step (by repeat (first | (with_reducible first | exact HB.out | apply below_alloc | apply pw_below_drewN | apply below_drew1) | exact HB.out)) hb); have n1_ := Aside0.mk (hbox); have n2_ := Aside0.mk ((by rw [hg]; exact (below_size (by repeat (first | (with_reducible first | exact HB.out | apply below_alloc | apply pw_below_drewN | apply below_drew1) | exact HB.out))) : w.heap.size ≤ gb602)); have n3_ := Aside0.mk ((by rw [hg]; exact (below_size (by repeat (first | (with_reducible first | exact HB.out | apply below_alloc | apply pw_below_drewN | apply below_drew1) | exact HB.out))) : w.heap.size ≤ gb602)); clear HB; have HB := n0_; have BK602 := n1_; have GW602 := n2_; have GE602 := n3_; clear n0_ n1_ n2_ n3_; clear hb hbox hg) | ((with_reducible refine gate_dst (N := 4) rfl ?_); refine box_event ?hg (N := 4) ?hd (cs := #[.int .u8 0, .int .i64 0, .string (⟨#[]⟩ : ByteArray)]) (t := 25) ?hr ?_; (case hd => rfl); (case hg => rfl); (case hr => first | (go_simp; done) | (go_simp; rfl)); intro gb603 hg w5 hbox hb; have n0_ := Aside0.mk (blk_below (g := gb602) (o := .cells #[.int .u8 a0_0, .int .i64 a0_1, .string a0_2] 25 (0, 0)) (by (with_reducible repeat (first | refine blk_drewN ?_ _ | refine blk_drew ?_ | refine blk_alloc ?_ _)); exact BK602.out) hb); have n1_ := Aside0.mk (below_step (by repeat (first | (with_reducible first | exact HB.out | apply below_alloc | apply pw_below_drewN | apply below_drew1 | refine below_set ?_ GE602.out) | exact HB.out)) hb); have n2_ := Aside0.mk (hbox); have n3_ := Aside0.mk ((by rw [hg]; exact (below_size (by repeat (first | (with_reducible first | exact HB.out | apply below_alloc | apply pw_below_drewN | apply below_drew1 | refine below_set ?_ GE602.out) | exact HB.out))) : w.heap.size ≤ gb603)); have n4_ := Aside0.mk ((by rw [hg]; exact (below_size (by repeat (first | (with_reducible first | exact HB.out | apply below_alloc | apply pw_below_drewN | apply below_drew1 | refine below_set ?_ GE602.out) | exact HB.out))) : w.heap.size ≤ gb603)); have n5_ := Aside0.mk ((by rw [hg]; exact Nat.ne_of_lt (blk_lt (g := gb602) (o := .cells #[.int .u8 a0_0, .int .i64 a0_1, .string a0_2] 25 (0, 0)) (by (with_reducible repeat (first | refine blk_drewN ?_ _ | refine blk_drew ?_ | refine blk_alloc ?_ _)); exact BK602.out)) : gb602 ≠ gb603)); have n6_ := Aside0.mk ((by rw [hg]; exact Nat.ne_of_gt (blk_lt (g := gb602) (o := .cells #[.int .u8 a0_0, .int .i64 a0_1, .string a0_2] 25 (0, 0)) (by (with_reducible repeat (first | refine blk_drewN ?_ _ | refine blk_drew ?_ | refine blk_alloc ?_ _)); exact BK602.out)) : gb603 ≠ gb602)); clear BK602; clear HB; have BK602 := n0_; have HB := n1_; have BK603 := n2_; have GW603 := n3_; have GE603 := n4_; have NB602_603 := n5_; have NB603_602 := n6_; clear n0_ n1_ n2_ n3_ n4_ n5_ n6_; clear hb hbox hg))
  (try simp only [Act.put, List.setIfInBounds_toArray, List.set_cons_zero, List.set_cons_succ])
  go_cut [6] (fun v6 wc => ∃ (kq : Nat) (x6_2 : Bool), v6 = .bool x6_2 ∧ Aside0 (chanceryref17_As.j0 kq a1 x6_2 a0_0 a0_1 a0_2 = some (r1, r2, r3, r4)) ∧ Aside0 (kq ≤ k) ∧ Aside0 (wc.heap[gb602]? = some (.cells #[.int .u8 a0_0, .int .i64 a0_1, .string a0_2] 25 (0, 0))) ∧ Aside0 (wc.heap[gb603]? = some (.cells #[.int .u8 0, .int .i64 0, .string (⟨#[]⟩ : ByteArray)] 25 (0, 0))) ∧ Aside0 (Below w.heap.size w wc))
  case first =>
    have H := HC3.out
    clear HC3
    replace H := Option.bind_eq_some_iff.mp H
    obtain ⟨t604, A60, H⟩ := H
    replace H : (if t604 = true then (if a1 < 1 then (chanceryref17_As.j0 k a1 true a0_0 a0_1 a0_2) else (chanceryref17_As.j0 k a1 (decide (a1 > 5)) a0_0 a0_1 a0_2)) else (chanceryref17_As.j0 k a1 true a0_0 a0_1 a0_2)) = some (r1, r2, r3, r4) := H
    have A6 := Aside0.mk A60
    clear A60
    by_cases c7 : t604 = true
    · subst c7
      have H1 : (if a1 < 1 then (chanceryref17_As.j0 k a1 true a0_0 a0_1 a0_2) else (chanceryref17_As.j0 k a1 (decide (a1 > 5)) a0_0 a0_1 a0_2)) = some (r1, r2, r3, r4) := by rw [if_pos rfl] at H; exact H
      clear H
      have H := H1
      clear H1
      by_cases c8 : a1 < 1
      · rw [if_pos c8] at H
        have c8b0 : decide (a1 < 1) = true := decide_eq_true c8
        clear c8
        (first | rw [c8b0] | (simp only [i64_w, i32_w]; rw [c8b0]) | skip)
        have H' := Aside0.mk H
        clear H
        have hnb9 := NB602_603.out
        have hnc9 := NB603_602.out
        have hcz10_0 : w5.cell? ⟨gb602, 0, none⟩ = some (.int .u8 a0_0) := (blk_cell BK602.out 0).trans rfl
        have hcz10_1 : w5.cell? ⟨gb602, 1, none⟩ = some (.int .i64 a0_1) := (blk_cell BK602.out 1).trans rfl
        have hcz10_2 : w5.cell? ⟨gb602, 2, none⟩ = some (.string a0_2) := (blk_cell BK602.out 2).trans rfl
        have hfz10_0 := blk_frozen BK602.out 0
        have hfz10_1 := blk_frozen BK602.out 1
        have hfz10_2 := blk_frozen BK602.out 2
        go_wp2_with (first | ((with_reducible refine gate_callee (f := 14) rfl ?_); refine goesL_ (some 8) rfl rfl Tryd.func14 (by kernel_rfl) rfl #[.agg #[.int .u8 a0_0, .int .i64 a0_1, .string a0_2]] rfl (by (try simp only [List.map_toArray, List.map_cons, List.map_nil]); first | done | rfl | (simp only [List.length_drop, List.length_take]; rfl)) ?_; (with_reducible refine (chanceryref17_Right.calls k a0_0 a0_1 a0_2 true _ A6.out).mono ?_); rintro e w11 ⟨rfl, hb⟩; refine ⟨_, rfl, ?_⟩; have n0_ := Aside0.mk (blk_below (g := gb602) (o := .cells #[.int .u8 a0_0, .int .i64 a0_1, .string a0_2] 25 (0, 0)) (by (with_reducible repeat (first | refine blk_drewN ?_ _ | refine blk_drew ?_ | refine blk_alloc ?_ _)); exact BK602.out) hb); have n1_ := Aside0.mk (blk_below (g := gb603) (o := .cells #[.int .u8 0, .int .i64 0, .string (⟨#[]⟩ : ByteArray)] 25 (0, 0)) (by (with_reducible repeat (first | refine blk_drewN ?_ _ | refine blk_drew ?_ | refine blk_alloc ?_ _)); exact BK603.out) hb); have n2_ := Aside0.mk (below_step (by repeat (first | (with_reducible first | exact HB.out | apply below_alloc | apply pw_below_drewN | apply below_drew1 | refine below_set ?_ GE602.out | refine below_set ?_ GE603.out) | exact HB.out)) hb); clear BK602; clear BK603; clear HB; have BK602 := n0_; have BK603 := n1_; have HB := n2_; clear n0_ n1_ n2_; (try clear hb); (try clear hb2); (try clear hk); (try clear hi)))
        go_meet
        case rel => exact ⟨_, (true), (by first | rfl | (simp; done) | (simp [*]; done)), H', ⟨by first | omega | exact Nat.le_refl _⟩, ⟨by (with_reducible repeat (first | refine blk_drewN ?_ _ | refine blk_drew ?_ | refine blk_alloc ?_ _)); exact BK602.out⟩, ⟨by (with_reducible repeat (first | refine blk_drewN ?_ _ | refine blk_drew ?_ | refine blk_alloc ?_ _)); exact BK603.out⟩, ⟨by repeat (first | (with_reducible first | exact HB.out | apply below_alloc | apply pw_below_drewN | apply below_drew1 | refine below_set ?_ GE602.out | refine below_set ?_ GE603.out) | exact HB.out)⟩⟩
      · rw [if_neg c8] at H
        have c8b0 : decide (a1 < 1) = false := decide_eq_false c8
        clear c8
        (first | rw [c8b0] | (simp only [i64_w, i32_w]; rw [c8b0]) | skip)
        have H' := Aside0.mk H
        clear H
        have hnb12 := NB602_603.out
        have hnc12 := NB603_602.out
        have hcz13_0 : w5.cell? ⟨gb602, 0, none⟩ = some (.int .u8 a0_0) := (blk_cell BK602.out 0).trans rfl
        have hcz13_1 : w5.cell? ⟨gb602, 1, none⟩ = some (.int .i64 a0_1) := (blk_cell BK602.out 1).trans rfl
        have hcz13_2 : w5.cell? ⟨gb602, 2, none⟩ = some (.string a0_2) := (blk_cell BK602.out 2).trans rfl
        have hfz13_0 := blk_frozen BK602.out 0
        have hfz13_1 := blk_frozen BK602.out 1
        have hfz13_2 := blk_frozen BK602.out 2
        go_wp2_with (first | ((with_reducible refine gate_callee (f := 14) rfl ?_); refine goesL_ (some 8) rfl rfl Tryd.func14 (by kernel_rfl) rfl #[.agg #[.int .u8 a0_0, .int .i64 a0_1, .string a0_2]] rfl (by (try simp only [List.map_toArray, List.map_cons, List.map_nil]); first | done | rfl | (simp only [List.length_drop, List.length_take]; rfl)) ?_; (with_reducible refine (chanceryref17_Right.calls k a0_0 a0_1 a0_2 true _ A6.out).mono ?_); rintro e w14 ⟨rfl, hb⟩; refine ⟨_, rfl, ?_⟩; have n0_ := Aside0.mk (blk_below (g := gb602) (o := .cells #[.int .u8 a0_0, .int .i64 a0_1, .string a0_2] 25 (0, 0)) (by (with_reducible repeat (first | refine blk_drewN ?_ _ | refine blk_drew ?_ | refine blk_alloc ?_ _)); exact BK602.out) hb); have n1_ := Aside0.mk (blk_below (g := gb603) (o := .cells #[.int .u8 0, .int .i64 0, .string (⟨#[]⟩ : ByteArray)] 25 (0, 0)) (by (with_reducible repeat (first | refine blk_drewN ?_ _ | refine blk_drew ?_ | refine blk_alloc ?_ _)); exact BK603.out) hb); have n2_ := Aside0.mk (below_step (by repeat (first | (with_reducible first | exact HB.out | apply below_alloc | apply pw_below_drewN | apply below_drew1 | refine below_set ?_ GE602.out | refine below_set ?_ GE603.out) | exact HB.out)) hb); clear BK602; clear BK603; clear HB; have BK602 := n0_; have BK603 := n1_; have HB := n2_; clear n0_ n1_ n2_; (try clear hb); (try clear hb2); (try clear hk); (try clear hi)))
        go_meet
        case rel => exact ⟨_, (decide (a1 > 5)), (by first | rfl | (simp; done) | (simp [*]; done)), H', ⟨by first | omega | exact Nat.le_refl _⟩, ⟨by (with_reducible repeat (first | refine blk_drewN ?_ _ | refine blk_drew ?_ | refine blk_alloc ?_ _)); exact BK602.out⟩, ⟨by (with_reducible repeat (first | refine blk_drewN ?_ _ | refine blk_drew ?_ | refine blk_alloc ?_ _)); exact BK603.out⟩, ⟨by repeat (first | (with_reducible first | exact HB.out | apply below_alloc | apply pw_below_drewN | apply below_drew1 | refine below_set ?_ GE602.out | refine below_set ?_ GE603.out) | exact HB.out)⟩⟩
    · replace c7 := Bool.eq_false_iff.mpr c7
      subst c7
      have H1 : (chanceryref17_As.j0 k a1 true a0_0 a0_1 a0_2) = some (r1, r2, r3, r4) := by rw [if_neg (show ¬ (false = true) by decide)] at H; exact H
      clear H
      have H := H1
      clear H1
      have H' := Aside0.mk H
      clear H
      have hnb15 := NB602_603.out
      have hnc15 := NB603_602.out
      have hcz16_0 : w5.cell? ⟨gb602, 0, none⟩ = some (.int .u8 a0_0) := (blk_cell BK602.out 0).trans rfl
      have hcz16_1 : w5.cell? ⟨gb602, 1, none⟩ = some (.int .i64 a0_1) := (blk_cell BK602.out 1).trans rfl
      have hcz16_2 : w5.cell? ⟨gb602, 2, none⟩ = some (.string a0_2) := (blk_cell BK602.out 2).trans rfl
      have hfz16_0 := blk_frozen BK602.out 0
      have hfz16_1 := blk_frozen BK602.out 1
      have hfz16_2 := blk_frozen BK602.out 2
      go_wp2_with (first | ((with_reducible refine gate_callee (f := 14) rfl ?_); refine goesL_ (some 8) rfl rfl Tryd.func14 (by kernel_rfl) rfl #[.agg #[.int .u8 a0_0, .int .i64 a0_1, .string a0_2]] rfl (by (try simp only [List.map_toArray, List.map_cons, List.map_nil]); first | done | rfl | (simp only [List.length_drop, List.length_take]; rfl)) ?_; (with_reducible refine (chanceryref17_Right.calls k a0_0 a0_1 a0_2 false _ A6.out).mono ?_); rintro e w17 ⟨rfl, hb⟩; refine ⟨_, rfl, ?_⟩; have n0_ := Aside0.mk (blk_below (g := gb602) (o := .cells #[.int .u8 a0_0, .int .i64 a0_1, .string a0_2] 25 (0, 0)) (by (with_reducible repeat (first | refine blk_drewN ?_ _ | refine blk_drew ?_ | refine blk_alloc ?_ _)); exact BK602.out) hb); have n1_ := Aside0.mk (blk_below (g := gb603) (o := .cells #[.int .u8 0, .int .i64 0, .string (⟨#[]⟩ : ByteArray)] 25 (0, 0)) (by (with_reducible repeat (first | refine blk_drewN ?_ _ | refine blk_drew ?_ | refine blk_alloc ?_ _)); exact BK603.out) hb); have n2_ := Aside0.mk (below_step (by repeat (first | (with_reducible first | exact HB.out | apply below_alloc | apply pw_below_drewN | apply below_drew1 | refine below_set ?_ GE602.out | refine below_set ?_ GE603.out) | exact HB.out)) hb); clear BK602; clear BK603; clear HB; have BK602 := n0_; have BK603 := n1_; have HB := n2_; clear n0_ n1_ n2_; (try clear hb); (try clear hb2); (try clear hk); (try clear hi)))
      go_meet
      case rel => exact ⟨_, (true), (by first | rfl | (simp; done) | (simp [*]; done)), H', ⟨by first | omega | exact Nat.le_refl _⟩, ⟨by (with_reducible repeat (first | refine blk_drewN ?_ _ | refine blk_drew ?_ | refine blk_alloc ?_ _)); exact BK602.out⟩, ⟨by (with_reducible repeat (first | refine blk_drewN ?_ _ | refine blk_drew ?_ | refine blk_alloc ?_ _)); exact BK603.out⟩, ⟨by repeat (first | (with_reducible first | exact HB.out | apply below_alloc | apply pw_below_drewN | apply below_drew1 | refine below_set ?_ GE602.out | refine below_set ?_ GE603.out) | exact HB.out)⟩⟩
  case rest =>
    clear HC3
    try clear c1
    try clear p2
    try clear c3
    try clear c7
    try clear c8
    try clear c8b0
    try clear c9
    try clear c12
    try clear c14
    try clear c15
    try clear hcz10_0
    try clear hcz10_1
    try clear hcz10_2
    try clear hcz13_0
    try clear hcz13_1
    try clear hcz13_2
    try clear hcz16_0
    try clear hcz16_1
    try clear hcz16_2
    try clear hfz10_0
    try clear hfz10_1
    try clear hfz10_2
    try clear hfz13_0
    try clear hfz13_1
    try clear hfz13_2
    try clear hfz16_0
    try clear hfz16_1
    try clear hfz16_2
    obtain ⟨kq, x6_2, rfl, HA, HJ2, BK602, BK603, HB⟩ := hcut
    cases kq with
    | zero => exact absurd HA.out (by simp [chanceryref17_As.j0])
    | succ kj2 =>
      have H := HA.out
      clear HA
      simp only [chanceryref17_As.j0] at H
      by_cases c18 : x6_2 = true
      · subst c18
        have H1 : (some (0, 0, (⟨#[]⟩ : ByteArray), 2)) = some (r1, r2, r3, r4) := by rw [if_pos rfl] at H; exact H
        clear H
        have H := H1
        clear H1
        simp only [Option.some.injEq, Prod.mk.injEq] at H
        obtain ⟨rfl, rfl, rfl, rfl⟩ := H
        have hnb19 := NB603_602.out
        have hnc19 := NB602_603.out
        have hcz20_0 : wc.cell? ⟨gb603, 0, none⟩ = some (.int .u8 0) := (blk_cell BK603.out 0).trans rfl
        have hcz20_1 : wc.cell? ⟨gb603, 1, none⟩ = some (.int .i64 0) := (blk_cell BK603.out 1).trans rfl
        have hcz20_2 : wc.cell? ⟨gb603, 2, none⟩ = some (.string (⟨#[]⟩ : ByteArray)) := (blk_cell BK603.out 2).trans rfl
        have hfz20_0 := blk_frozen BK603.out 0
        have hfz20_1 := blk_frozen BK603.out 1
        have hfz20_2 := blk_frozen BK603.out 2
        go_wp2
        refine bodyPost_ret (results_ct rfl _ _ gb603 25 #[.int .u8 0, .int .i64 0, .string (⟨#[]⟩ : ByteArray)] (0, 0) _ rfl (by (with_reducible repeat (first | refine blk_drewN ?_ _ | refine blk_drew ?_ | refine blk_alloc ?_ _)); refine blk_put (cs := #[.int .u8 0, .int .i64 0, .string (⟨#[]⟩ : ByteArray)]) ?_ 2 _ rfl; (with_reducible repeat (first | refine blk_drewN ?_ _ | refine blk_drew ?_ | refine blk_alloc ?_ _)); refine blk_put (cs := #[.int .u8 0, .int .i64 0, .string (⟨#[]⟩ : ByteArray)]) ?_ 1 _ rfl; (with_reducible repeat (first | refine blk_drewN ?_ _ | refine blk_drew ?_ | refine blk_alloc ?_ _)); refine blk_put (cs := #[.int .u8 0, .int .i64 0, .string (⟨#[]⟩ : ByteArray)]) ?_ 0 _ rfl; (with_reducible repeat (first | refine blk_drewN ?_ _ | refine blk_drew ?_ | refine blk_alloc ?_ _)); exact BK603.out) Tryd.underlying25 rfl (by kernel_rfl)) rfl ?_
        exact ⟨by first | rfl | (simp [errW_none, errW_some] <;> rfl) | (simp [*, errW_none, errW_some] <;> rfl), by repeat (first | (with_reducible first | exact HB.out | apply below_alloc | apply pw_below_drewN | apply below_drew1 | refine below_set ?_ GE602.out | refine below_set ?_ GE603.out) | exact HB.out)⟩
      · replace c18 := Bool.eq_false_iff.mpr c18
        subst c18
        have H1 : (if a0_0 = 0 then (chanceryref17_As.j1 kj2 a1 true a0_0 a0_1 a0_2) else (chanceryref17_As.j1 kj2 a1 (a0_0 == a1) a0_0 a0_1 a0_2)) = some (r1, r2, r3, r4) := by rw [if_neg (show ¬ (false = true) by decide)] at H; exact H
        clear H
        have H := H1
        clear H1
        have HC21 := Aside0.mk H
        clear H
        go_upto_region 3 with (fail)
        go_cut [19] (fun v19 wc => ∃ (kq : Nat) (x19_20 : Bool), v19 = .bool x19_20 ∧ Aside0 (chanceryref17_As.j1 kq a1 x19_20 a0_0 a0_1 a0_2 = some (r1, r2, r3, r4)) ∧ Aside0 (kq ≤ kj2) ∧ Aside0 (wc.heap[gb602]? = some (.cells #[.int .u8 a0_0, .int .i64 a0_1, .string a0_2] 25 (0, 0))) ∧ Aside0 (wc.heap[gb603]? = some (.cells #[.int .u8 0, .int .i64 0, .string (⟨#[]⟩ : ByteArray)] 25 (0, 0))) ∧ Aside0 (Below w.heap.size w wc))
        case first =>
          have H := HC21.out
          clear HC21
          by_cases c22 : a0_0 = 0
          · rw [if_pos c22] at H
            have c22b0 : (a0_0 == 0) = true := beq_iff_eq.mpr c22
            have c22b1 : (a0_0 != 0) = false := bne_eq_false_iff_eq.mpr c22
            clear c22
            (first | rw [c22b0] | (simp only [i64_w, i32_w]; rw [c22b0]) | skip)
            have H' := Aside0.mk H
            clear H
            have hnb23 := NB602_603.out
            have hnc23 := NB603_602.out
            have hcz24_0 : wc.cell? ⟨gb602, 0, none⟩ = some (.int .u8 a0_0) := (blk_cell BK602.out 0).trans rfl
            have hcz24_1 : wc.cell? ⟨gb602, 1, none⟩ = some (.int .i64 a0_1) := (blk_cell BK602.out 1).trans rfl
            have hcz24_2 : wc.cell? ⟨gb602, 2, none⟩ = some (.string a0_2) := (blk_cell BK602.out 2).trans rfl
            have hfz24_0 := blk_frozen BK602.out 0
            have hfz24_1 := blk_frozen BK602.out 1
            have hfz24_2 := blk_frozen BK602.out 2
            go_wp2
            go_meet
            case rel => exact ⟨_, (true), (by first | rfl | (simp; done) | (simp [*]; done)), H', ⟨by have := HJ2.out; first | omega | exact Nat.le_refl _⟩, ⟨by (with_reducible repeat (first | refine blk_drewN ?_ _ | refine blk_drew ?_ | refine blk_alloc ?_ _)); exact BK602.out⟩, ⟨by (with_reducible repeat (first | refine blk_drewN ?_ _ | refine blk_drew ?_ | refine blk_alloc ?_ _)); exact BK603.out⟩, ⟨by repeat (first | (with_reducible first | exact HB.out | apply below_alloc | apply pw_below_drewN | apply below_drew1 | refine below_set ?_ GE602.out | refine below_set ?_ GE603.out) | exact HB.out)⟩⟩
          · rw [if_neg c22] at H
            have c22b0 : (a0_0 == 0) = false := beq_eq_false_iff_ne.mpr c22
            have c22b1 : (a0_0 != 0) = true := bne_iff_ne.mpr c22
            (first | rw [c22b0] | (simp only [i64_w, i32_w]; rw [c22b0]) | skip)
            have H' := Aside0.mk H
            clear H
            have hnb25 := NB602_603.out
            have hnc25 := NB603_602.out
            have hcz26_0 : wc.cell? ⟨gb602, 0, none⟩ = some (.int .u8 a0_0) := (blk_cell BK602.out 0).trans rfl
            have hcz26_1 : wc.cell? ⟨gb602, 1, none⟩ = some (.int .i64 a0_1) := (blk_cell BK602.out 1).trans rfl
            have hcz26_2 : wc.cell? ⟨gb602, 2, none⟩ = some (.string a0_2) := (blk_cell BK602.out 2).trans rfl
            have hfz26_0 := blk_frozen BK602.out 0
            have hfz26_1 := blk_frozen BK602.out 1
            have hfz26_2 := blk_frozen BK602.out 2
            go_wp2
            go_meet
            case rel => exact ⟨_, ((a0_0 == a1)), (by first | rfl | (simp; done) | (simp [*]; done)), H', ⟨by have := HJ2.out; first | omega | exact Nat.le_refl _⟩, ⟨by (with_reducible repeat (first | refine blk_drewN ?_ _ | refine blk_drew ?_ | refine blk_alloc ?_ _)); exact BK602.out⟩, ⟨by (with_reducible repeat (first | refine blk_drewN ?_ _ | refine blk_drew ?_ | refine blk_alloc ?_ _)); exact BK603.out⟩, ⟨by repeat (first | (with_reducible first | exact HB.out | apply below_alloc | apply pw_below_drewN | apply below_drew1 | refine below_set ?_ GE602.out | refine below_set ?_ GE603.out) | exact HB.out)⟩⟩
        case rest =>
          clear HC21
          try clear c1
          try clear c2
          try clear p2
          try clear c3
          try clear c7
          try clear c8
          try clear c8b0
          try clear c9
          try clear c12
          try clear c14
          try clear c15
          try clear c18
          try clear c19
          try clear c22
          try clear c22b0
          try clear c22b1
          try clear c23
          try clear c25
          try clear hcz10_0
          try clear hcz10_1
          try clear hcz10_2
          try clear hcz13_0
          try clear hcz13_1
          try clear hcz13_2
          try clear hcz16_0
          try clear hcz16_1
          try clear hcz16_2
          try clear hcz20_0
          try clear hcz20_1
          try clear hcz20_2
          try clear hcz24_0
          try clear hcz24_1
          try clear hcz24_2
          try clear hcz26_0
          try clear hcz26_1
          try clear hcz26_2
          try clear hfz10_0
          try clear hfz10_1
          try clear hfz10_2
          try clear hfz13_0
          try clear hfz13_1
          try clear hfz13_2
          try clear hfz16_0
          try clear hfz16_1
          try clear hfz16_2
          try clear hfz20_0
          try clear hfz20_1
          try clear hfz20_2
          try clear hfz24_0
          try clear hfz24_1
          try clear hfz24_2
          try clear hfz26_0
          try clear hfz26_1
          try clear hfz26_2
          try clear p2
          obtain ⟨kq, x19_20, rfl, HA, HJ20, BK602, BK603, HB⟩ := hcut
          cases kq with
          | zero => exact absurd HA.out (by simp [chanceryref17_As.j1])
          | succ kj20 =>
            have H := HA.out
            clear HA
            simp only [chanceryref17_As.j1] at H
            by_cases c27 : x19_20 = true
            · subst c27
              have H1 : (some (a0_0, a0_1, a0_2, 0)) = some (r1, r2, r3, r4) := by rw [if_pos rfl] at H; exact H
              clear H
              have H := H1
              clear H1
              simp only [Option.some.injEq, Prod.mk.injEq] at H
              obtain ⟨rfl, rfl, rfl, rfl⟩ := H
              have hnb28 := NB602_603.out
              have hnc28 := NB603_602.out
              have hcz29_0 : wc.cell? ⟨gb602, 0, none⟩ = some (.int .u8 a0_0) := (blk_cell BK602.out 0).trans rfl
              have hcz29_1 : wc.cell? ⟨gb602, 1, none⟩ = some (.int .i64 a0_1) := (blk_cell BK602.out 1).trans rfl
              have hcz29_2 : wc.cell? ⟨gb602, 2, none⟩ = some (.string a0_2) := (blk_cell BK602.out 2).trans rfl
              have hfz29_0 := blk_frozen BK602.out 0
              have hfz29_1 := blk_frozen BK602.out 1
              have hfz29_2 := blk_frozen BK602.out 2
              have hcz30_0 : wc.cell? ⟨gb603, 0, none⟩ = some (.int .u8 0) := (blk_cell BK603.out 0).trans rfl
              have hcz30_1 : wc.cell? ⟨gb603, 1, none⟩ = some (.int .i64 0) := (blk_cell BK603.out 1).trans rfl
              have hcz30_2 : wc.cell? ⟨gb603, 2, none⟩ = some (.string (⟨#[]⟩ : ByteArray)) := (blk_cell BK603.out 2).trans rfl
              have hfz30_0 := blk_frozen BK603.out 0
              have hfz30_1 := blk_frozen BK603.out 1
              have hfz30_2 := blk_frozen BK603.out 2
              go_wp2
              refine bodyPost_ret (results_ct rfl _ _ gb603 25 #[.int .u8 a0_0, .int .i64 a0_1, .string a0_2] (0, 0) _ rfl (by (with_reducible repeat (first | refine blk_drewN ?_ _ | refine blk_drew ?_ | refine blk_alloc ?_ _)); refine blk_put (cs := #[.int .u8 a0_0, .int .i64 a0_1, .string (⟨#[]⟩ : ByteArray)]) ?_ 2 _ rfl; (with_reducible repeat (first | refine blk_drewN ?_ _ | refine blk_drew ?_ | refine blk_alloc ?_ _)); refine blk_put (cs := #[.int .u8 a0_0, .int .i64 0, .string (⟨#[]⟩ : ByteArray)]) ?_ 1 _ rfl; (with_reducible repeat (first | refine blk_drewN ?_ _ | refine blk_drew ?_ | refine blk_alloc ?_ _)); refine blk_put (cs := #[.int .u8 0, .int .i64 0, .string (⟨#[]⟩ : ByteArray)]) ?_ 0 _ rfl; (with_reducible repeat (first | refine blk_drewN ?_ _ | refine blk_drew ?_ | refine blk_alloc ?_ _)); exact BK603.out) Tryd.underlying25 rfl (by kernel_rfl)) rfl ?_
              exact ⟨by first | rfl | (simp [errW_none, errW_some] <;> rfl) | (simp [*, errW_none, errW_some] <;> rfl), by repeat (first | (with_reducible first | exact HB.out | apply below_alloc | apply pw_below_drewN | apply below_drew1 | refine below_set ?_ GE602.out | refine below_set ?_ GE603.out) | exact HB.out)⟩
            · replace c27 := Bool.eq_false_iff.mpr c27
              subst c27
              have H1 : (if a0_0 = 2 then (chanceryref17_As.j2 kj20 (a1 == 3) a0_0 a0_1 a0_2) else (chanceryref17_As.j2 kj20 false a0_0 a0_1 a0_2)) = some (r1, r2, r3, r4) := by rw [if_neg (show ¬ (false = true) by decide)] at H; exact H
              clear H
              have H := H1
              clear H1
              have HC31 := Aside0.mk H
              clear H
              go_upto_region 5 with (fail)
              go_cut [30] (fun v30 wc => ∃ (kq : Nat) (x30_30 : Bool), v30 = .bool x30_30 ∧ Aside0 (chanceryref17_As.j2 kq x30_30 a0_0 a0_1 a0_2 = some (r1, r2, r3, r4)) ∧ Aside0 (kq ≤ kj20) ∧ Aside0 (wc.heap[gb602]? = some (.cells #[.int .u8 a0_0, .int .i64 a0_1, .string a0_2] 25 (0, 0))) ∧ Aside0 (wc.heap[gb603]? = some (.cells #[.int .u8 0, .int .i64 0, .string (⟨#[]⟩ : ByteArray)] 25 (0, 0))) ∧ Aside0 (Below w.heap.size w wc))
              case first =>
                have H := HC31.out
                clear HC31
                by_cases c32 : a0_0 = 2
                · rw [if_pos c32] at H
                  have c32b0 : (a0_0 == 2) = true := beq_iff_eq.mpr c32
                  have c32b1 : (a0_0 != 2) = false := bne_eq_false_iff_eq.mpr c32
                  clear c32
                  (first | rw [c32b0] | (simp only [i64_w, i32_w]; rw [c32b0]) | skip)
                  have H' := Aside0.mk H
                  clear H
                  have hnb33 := NB602_603.out
                  have hnc33 := NB603_602.out
                  have hcz34_0 : wc.cell? ⟨gb602, 0, none⟩ = some (.int .u8 a0_0) := (blk_cell BK602.out 0).trans rfl
                  have hcz34_1 : wc.cell? ⟨gb602, 1, none⟩ = some (.int .i64 a0_1) := (blk_cell BK602.out 1).trans rfl
                  have hcz34_2 : wc.cell? ⟨gb602, 2, none⟩ = some (.string a0_2) := (blk_cell BK602.out 2).trans rfl
                  have hfz34_0 := blk_frozen BK602.out 0
                  have hfz34_1 := blk_frozen BK602.out 1
                  have hfz34_2 := blk_frozen BK602.out 2
                  go_wp2
                  go_meet
                  case rel => exact ⟨_, ((a1 == 3)), (by first | rfl | (simp; done) | (simp [*]; done)), H', ⟨by have := HJ2.out; have := HJ20.out; first | omega | exact Nat.le_refl _⟩, ⟨by (with_reducible repeat (first | refine blk_drewN ?_ _ | refine blk_drew ?_ | refine blk_alloc ?_ _)); exact BK602.out⟩, ⟨by (with_reducible repeat (first | refine blk_drewN ?_ _ | refine blk_drew ?_ | refine blk_alloc ?_ _)); exact BK603.out⟩, ⟨by repeat (first | (with_reducible first | exact HB.out | apply below_alloc | apply pw_below_drewN | apply below_drew1 | refine below_set ?_ GE602.out | refine below_set ?_ GE603.out) | exact HB.out)⟩⟩
                · rw [if_neg c32] at H
                  have c32b0 : (a0_0 == 2) = false := beq_eq_false_iff_ne.mpr c32
                  have c32b1 : (a0_0 != 2) = true := bne_iff_ne.mpr c32
                  (first | rw [c32b0] | (simp only [i64_w, i32_w]; rw [c32b0]) | skip)
                  have H' := Aside0.mk H
                  clear H
                  have hnb35 := NB602_603.out
                  have hnc35 := NB603_602.out
                  have hcz36_0 : wc.cell? ⟨gb602, 0, none⟩ = some (.int .u8 a0_0) := (blk_cell BK602.out 0).trans rfl
                  have hcz36_1 : wc.cell? ⟨gb602, 1, none⟩ = some (.int .i64 a0_1) := (blk_cell BK602.out 1).trans rfl
                  have hcz36_2 : wc.cell? ⟨gb602, 2, none⟩ = some (.string a0_2) := (blk_cell BK602.out 2).trans rfl
                  have hfz36_0 := blk_frozen BK602.out 0
                  have hfz36_1 := blk_frozen BK602.out 1
                  have hfz36_2 := blk_frozen BK602.out 2
                  go_wp2
                  go_meet
                  case rel => exact ⟨_, (false), (by first | rfl | (simp; done) | (simp [*]; done)), H', ⟨by have := HJ2.out; have := HJ20.out; first | omega | exact Nat.le_refl _⟩, ⟨by (with_reducible repeat (first | refine blk_drewN ?_ _ | refine blk_drew ?_ | refine blk_alloc ?_ _)); exact BK602.out⟩, ⟨by (with_reducible repeat (first | refine blk_drewN ?_ _ | refine blk_drew ?_ | refine blk_alloc ?_ _)); exact BK603.out⟩, ⟨by repeat (first | (with_reducible first | exact HB.out | apply below_alloc | apply pw_below_drewN | apply below_drew1 | refine below_set ?_ GE602.out | refine below_set ?_ GE603.out) | exact HB.out)⟩⟩
              case rest =>
                clear HC31
                try clear c1
                try clear c2
                try clear p2
                try clear c3
                try clear c7
                try clear c8
                try clear c8b0
                try clear c9
                try clear c12
                try clear c14
                try clear c15
                try clear c18
                try clear c19
                try clear c22
                try clear c22b0
                try clear c22b1
                try clear c23
                try clear c25
                try clear c27
                try clear c28
                try clear c31
                try clear c32
                try clear c32b0
                try clear c32b1
                try clear c33
                try clear c35
                try clear hcz10_0
                try clear hcz10_1
                try clear hcz10_2
                try clear hcz13_0
                try clear hcz13_1
                try clear hcz13_2
                try clear hcz16_0
                try clear hcz16_1
                try clear hcz16_2
                try clear hcz20_0
                try clear hcz20_1
                try clear hcz20_2
                try clear hcz24_0
                try clear hcz24_1
                try clear hcz24_2
                try clear hcz26_0
                try clear hcz26_1
                try clear hcz26_2
                try clear hcz29_0
                try clear hcz29_1
                try clear hcz29_2
                try clear hcz30_0
                try clear hcz30_1
                try clear hcz30_2
                try clear hcz34_0
                try clear hcz34_1
                try clear hcz34_2
                try clear hcz36_0
                try clear hcz36_1
                try clear hcz36_2
                try clear hfz10_0
                try clear hfz10_1
                try clear hfz10_2
                try clear hfz13_0
                try clear hfz13_1
                try clear hfz13_2
                try clear hfz16_0
                try clear hfz16_1
                try clear hfz16_2
                try clear hfz20_0
                try clear hfz20_1
                try clear hfz20_2
                try clear hfz24_0
                try clear hfz24_1
                try clear hfz24_2
                try clear hfz26_0
                try clear hfz26_1
                try clear hfz26_2
                try clear hfz29_0
                try clear hfz29_1
                try clear hfz29_2
                try clear hfz30_0
                try clear hfz30_1
                try clear hfz30_2
                try clear hfz34_0
                try clear hfz34_1
                try clear hfz34_2
                try clear hfz36_0
                try clear hfz36_1
                try clear hfz36_2
                try clear p2
                obtain ⟨kq, x30_30, rfl, HA, HJ30, BK602, BK603, HB⟩ := hcut
                cases kq with
                | zero => exact absurd HA.out (by simp [chanceryref17_As.j2])
                | succ kj30 =>
                  have H := HA.out
                  clear HA
                  simp only [chanceryref17_As.j2] at H
                  by_cases c37 : x30_30 = true
                  · subst c37
                    have H1 : ((chanceryref17_fixed.f a0_0 a0_1 a0_2).bind fun bt605 => ((chanceryref17_answer.f 3 bt605.1 bt605.2.1 bt605.2.2.1 bt605.2.2.2.1 bt605.2.2.2.2.1 bt605.2.2.2.2.2).bind fun bt611 => (some (bt611.1, bt611.2.1, bt611.2.2.1, bt611.2.2.2)))) = some (r1, r2, r3, r4) := by rw [if_pos rfl] at H; exact H
                    clear H
                    have H := H1
                    clear H1
                    replace H := Option.bind_eq_some_iff.mp H
                    obtain ⟨⟨t605, t606, t607, t608, t609, t610⟩, A380, H⟩ := H
                    replace H : ((chanceryref17_answer.f 3 t605 t606 t607 t608 t609 t610).bind fun bt611 => (some (bt611.1, bt611.2.1, bt611.2.2.1, bt611.2.2.2))) = some (r1, r2, r3, r4) := H
                    have A38 := Aside0.mk A380
                    clear A380
                    replace H := Option.bind_eq_some_iff.mp H
                    obtain ⟨⟨t611, t612, t613, t614⟩, A390, H⟩ := H
                    replace H : (some (t611, t612, t613, t614)) = some (r1, r2, r3, r4) := H
                    have A39 := Aside0.mk A390
                    clear A390
                    simp only [Option.some.injEq, Prod.mk.injEq] at H
                    obtain ⟨rfl, rfl, rfl, rfl⟩ := H
                    have hnb40 := NB602_603.out
                    have hnc40 := NB603_602.out
                    have hcz41_0 : wc.cell? ⟨gb602, 0, none⟩ = some (.int .u8 a0_0) := (blk_cell BK602.out 0).trans rfl
                    have hcz41_1 : wc.cell? ⟨gb602, 1, none⟩ = some (.int .i64 a0_1) := (blk_cell BK602.out 1).trans rfl
                    have hcz41_2 : wc.cell? ⟨gb602, 2, none⟩ = some (.string a0_2) := (blk_cell BK602.out 2).trans rfl
                    have hfz41_0 := blk_frozen BK602.out 0
                    have hfz41_1 := blk_frozen BK602.out 1
                    have hfz41_2 := blk_frozen BK602.out 2
                    go_wp2_with (first | ((with_reducible refine gate_callee (f := 44) rfl ?_); refine goesL_ (some 39) rfl rfl Tryd.func44 (by kernel_rfl) rfl #[.agg #[.int .u8 a0_0, .int .i64 a0_1, .string a0_2]] rfl (by (try simp only [List.map_toArray, List.map_cons, List.map_nil]); first | done | rfl | (simp only [List.length_drop, List.length_take]; rfl)) ?_; (with_reducible refine (chanceryref17_fixed.calls a0_0 a0_1 a0_2 t605 t606 t607 t608 t609 t610 _ A38.out).mono ?_); rintro e w42 ⟨rfl, hb⟩; refine ⟨_, rfl, ?_⟩; have n0_ := Aside0.mk (blk_below (g := gb602) (o := .cells #[.int .u8 a0_0, .int .i64 a0_1, .string a0_2] 25 (0, 0)) (by (with_reducible repeat (first | refine blk_drewN ?_ _ | refine blk_drew ?_ | refine blk_alloc ?_ _)); exact BK602.out) hb); have n1_ := Aside0.mk (blk_below (g := gb603) (o := .cells #[.int .u8 0, .int .i64 0, .string (⟨#[]⟩ : ByteArray)] 25 (0, 0)) (by (with_reducible repeat (first | refine blk_drewN ?_ _ | refine blk_drew ?_ | refine blk_alloc ?_ _)); exact BK603.out) hb); have n2_ := Aside0.mk (below_step (by repeat (first | (with_reducible first | exact HB.out | apply below_alloc | apply pw_below_drewN | apply below_drew1 | refine below_set ?_ GE602.out | refine below_set ?_ GE603.out) | exact HB.out)) hb); clear BK602; clear BK603; clear HB; have BK602 := n0_; have BK603 := n1_; have HB := n2_; clear n0_ n1_ n2_; (try clear hb); (try clear hb2); (try clear hk); (try clear hi)) | ((with_reducible refine gate_callee (f := 65) rfl ?_); refine goesL_ (some 40) rfl rfl Tryd.func65 (by kernel_rfl) rfl #[.int .u8 3, .agg #[.bool t605, .int .u64 t606, .int .u64 t607, .int .u64 t608, .int .u64 t609, .int .u64 t610]] rfl (by (try simp only [List.map_toArray, List.map_cons, List.map_nil]); first | done | rfl | (simp only [List.length_drop, List.length_take]; rfl)) ?_; (with_reducible refine (chanceryref17_answer.calls 3 t605 t606 t607 t608 t609 t610 t611 t612 t613 t614 _ A39.out).mono ?_); rintro e w43 ⟨rfl, hb⟩; refine ⟨_, rfl, ?_⟩; have n0_ := Aside0.mk (blk_below (g := gb602) (o := .cells #[.int .u8 a0_0, .int .i64 a0_1, .string a0_2] 25 (0, 0)) (by (with_reducible repeat (first | refine blk_drewN ?_ _ | refine blk_drew ?_ | refine blk_alloc ?_ _)); exact BK602.out) hb); have n1_ := Aside0.mk (blk_below (g := gb603) (o := .cells #[.int .u8 0, .int .i64 0, .string (⟨#[]⟩ : ByteArray)] 25 (0, 0)) (by (with_reducible repeat (first | refine blk_drewN ?_ _ | refine blk_drew ?_ | refine blk_alloc ?_ _)); exact BK603.out) hb); have n2_ := Aside0.mk (below_step (by repeat (first | (with_reducible first | exact HB.out | apply below_alloc | apply pw_below_drewN | apply below_drew1 | refine below_set ?_ GE602.out | refine below_set ?_ GE603.out) | exact HB.out)) hb); clear BK602; clear BK603; clear HB; have BK602 := n0_; have BK603 := n1_; have HB := n2_; clear n0_ n1_ n2_; (try clear hb); (try clear hb2); (try clear hk); (try clear hi); have hcz44_0 : w43.cell? ⟨gb603, 0, none⟩ = some (.int .u8 0) := (blk_cell BK603.out 0).trans rfl; have hcz44_1 : w43.cell? ⟨gb603, 1, none⟩ = some (.int .i64 0) := (blk_cell BK603.out 1).trans rfl; have hcz44_2 : w43.cell? ⟨gb603, 2, none⟩ = some (.string (⟨#[]⟩ : ByteArray)) := (blk_cell BK603.out 2).trans rfl; have hfz44_0 := blk_frozen BK603.out 0; have hfz44_1 := blk_frozen BK603.out 1; have hfz44_2 := blk_frozen BK603.out 2))
                    refine bodyPost_ret (results_ct rfl _ _ gb603 25 #[.int .u8 t611, .int .i64 t612, .string t613] (0, 0) _ rfl (by (with_reducible repeat (first | refine blk_drewN ?_ _ | refine blk_drew ?_ | refine blk_alloc ?_ _)); refine blk_put (cs := #[.int .u8 t611, .int .i64 t612, .string (⟨#[]⟩ : ByteArray)]) ?_ 2 _ rfl; (with_reducible repeat (first | refine blk_drewN ?_ _ | refine blk_drew ?_ | refine blk_alloc ?_ _)); refine blk_put (cs := #[.int .u8 t611, .int .i64 0, .string (⟨#[]⟩ : ByteArray)]) ?_ 1 _ rfl; (with_reducible repeat (first | refine blk_drewN ?_ _ | refine blk_drew ?_ | refine blk_alloc ?_ _)); refine blk_put (cs := #[.int .u8 0, .int .i64 0, .string (⟨#[]⟩ : ByteArray)]) ?_ 0 _ rfl; (with_reducible repeat (first | refine blk_drewN ?_ _ | refine blk_drew ?_ | refine blk_alloc ?_ _)); exact BK603.out) Tryd.underlying25 rfl (by kernel_rfl)) rfl ?_
                    exact ⟨by first | rfl | (simp [errW_none, errW_some] <;> rfl) | (simp [*, errW_none, errW_some] <;> rfl), by repeat (first | (with_reducible first | exact HB.out | apply below_alloc | apply pw_below_drewN | apply below_drew1 | refine below_set ?_ GE602.out | refine below_set ?_ GE603.out) | exact HB.out)⟩
                  · replace c37 := Bool.eq_false_iff.mpr c37
                    subst c37
                    have H1 : (some (0, 0, (⟨#[]⟩ : ByteArray), 270)) = some (r1, r2, r3, r4) := by rw [if_neg (show ¬ (false = true) by decide)] at H; exact H
                    clear H
                    have H := H1
                    clear H1
                    simp only [Option.some.injEq, Prod.mk.injEq] at H
                    obtain ⟨rfl, rfl, rfl, rfl⟩ := H
                    have hnb45 := NB603_602.out
                    have hnc45 := NB602_603.out
                    have hcz46_0 : wc.cell? ⟨gb603, 0, none⟩ = some (.int .u8 0) := (blk_cell BK603.out 0).trans rfl
                    have hcz46_1 : wc.cell? ⟨gb603, 1, none⟩ = some (.int .i64 0) := (blk_cell BK603.out 1).trans rfl
                    have hcz46_2 : wc.cell? ⟨gb603, 2, none⟩ = some (.string (⟨#[]⟩ : ByteArray)) := (blk_cell BK603.out 2).trans rfl
                    have hfz46_0 := blk_frozen BK603.out 0
                    have hfz46_1 := blk_frozen BK603.out 1
                    have hfz46_2 := blk_frozen BK603.out 2
                    go_wp2
                    refine bodyPost_ret (results_ct rfl _ _ gb603 25 #[.int .u8 0, .int .i64 0, .string (⟨#[]⟩ : ByteArray)] (0, 0) _ rfl (by (with_reducible repeat (first | refine blk_drewN ?_ _ | refine blk_drew ?_ | refine blk_alloc ?_ _)); refine blk_put (cs := #[.int .u8 0, .int .i64 0, .string (⟨#[]⟩ : ByteArray)]) ?_ 2 _ rfl; (with_reducible repeat (first | refine blk_drewN ?_ _ | refine blk_drew ?_ | refine blk_alloc ?_ _)); refine blk_put (cs := #[.int .u8 0, .int .i64 0, .string (⟨#[]⟩ : ByteArray)]) ?_ 1 _ rfl; (with_reducible repeat (first | refine blk_drewN ?_ _ | refine blk_drew ?_ | refine blk_alloc ?_ _)); refine blk_put (cs := #[.int .u8 0, .int .i64 0, .string (⟨#[]⟩ : ByteArray)]) ?_ 0 _ rfl; (with_reducible repeat (first | refine blk_drewN ?_ _ | refine blk_drew ?_ | refine blk_alloc ?_ _)); exact BK603.out) Tryd.underlying25 rfl (by kernel_rfl)) rfl ?_
                    exact ⟨by first | rfl | (simp [errW_none, errW_some] <;> rfl) | (simp [*, errW_none, errW_some] <;> rfl), by repeat (first | (with_reducible first | exact HB.out | apply below_alloc | apply pw_below_drewN | apply below_drew1 | refine below_set ?_ GE602.out | refine below_set ?_ GE603.out) | exact HB.out)⟩
end Go.Proofs.YtbodlnoipkommaaDoor.Q
namespace Go.Proofs.YtbodlnoipkommaaDoor.Q
open Go.RowKit Go.Proofs.YtbodlnoipkommaaDoorW.PrintWords Go.Proofs.YtbodlnoipkommaaDoorW.PrintLast Go.Proofs.YtbodlnoipkommaaDoorW.PrintMore
attribute [local go_sem] max2_int min2_int max_two min_two max_three min_three max_four min_four   -- for this text's walks alone
set_option linter.unusedVariables false
set_option linter.unusedSimpArgs false
def chanceryref17_Truth.j0 : Nat → Bool → Int → Int → ByteArray → Option (Int × Int)
  | 0, _, _, _, _ => none
  | k + 1, x4, x616000, x616001, x616002 => if x4 = true then (some (0, 270)) else (if x616000 = 0 then (some (2, 0)) else (if x616001 = 1 then (some (1, 0)) else (some (0, 0))))
def chanceryref17_Truth.f (k : Nat) (a0_0 : Int) (a0_1 : Int) (a0_2 : ByteArray) : Option (Int × Int) := (chanceryref17_Right.f k a0_0 a0_1 a0_2).bind fun t616 => (if t616 = true then (chanceryref17_Truth.j0 k (decide (a0_0 > 1)) a0_0 a0_1 a0_2) else (chanceryref17_Truth.j0 k true a0_0 a0_1 a0_2))
set_option maxHeartbeats 8000000 in
set_option maxRecDepth 100000 in
theorem chanceryref17_Truth.calls (k : Nat) (a0_0 : Int) (a0_1 : Int) (a0_2 : ByteArray) (r1 : Int) (r2 : Int) (w : World) (h : chanceryref17_Truth.f k a0_0 a0_1 a0_2 = some (r1, r2)) :
    Calls Tryd.prog 32 #[.agg #[.int .u8 a0_0, .int .i64 a0_1, .string a0_2]] w fun e w' => e = .returned (.tuple #[.int .u8 r1, .int .i64 r2]) ∧ Below w.heap.size w w' := by
  have hu25 := Tryd.underlying25
  have HB := Aside0.mk (Below.refl w.heap.size w)
  have H : ((chanceryref17_Right.f k a0_0 a0_1 a0_2).bind fun t616 => (if t616 = true then (chanceryref17_Truth.j0 k (decide (a0_0 > 1)) a0_0 a0_1 a0_2) else (chanceryref17_Truth.j0 k true a0_0 a0_1 a0_2))) = some (r1, r2) := h
  clear h
  have HC2 := Aside0.mk H
  clear H
  go_enter Tryd.func32, Tryd.ntmps32
  go_upto_region 1 with (first | ((with_reducible refine gate_dst (N := 1) rfl ?_); refine box_event ?hg (N := 1) ?hd (cs := #[.int .u8 a0_0, .int .i64 a0_1, .string a0_2]) (t := 25) ?hr ?_; (case hd => rfl); (case hg => rfl); (case hr => first | (go_simp; done) | (go_simp; rfl)); intro gb615 hg w3 hbox hb; have n0_ := Aside0.mk (below_step (by repeat (first | (with_reducible first | exact HB.out | apply below_alloc | apply pw_below_drewN | apply below_drew1) | exact HB.out)) hb); have n1_ := Aside0.mk (hbox); have n2_ := Aside0.mk ((by rw [hg]; exact (below_size (by repeat (first | (with_reducible first | exact HB.out | apply below_alloc | apply pw_below_drewN | apply below_drew1) | exact HB.out))) : w.heap.size ≤ gb615)); have n3_ := Aside0.mk ((by rw [hg]; exact (below_size (by repeat (first | (with_reducible first | exact HB.out | apply below_alloc | apply pw_below_drewN | apply below_drew1) | exact HB.out))) : w.heap.size ≤ gb615)); clear HB; have HB := n0_; have BK615 := n1_; have GW615 := n2_; have GE615 := n3_; clear n0_ n1_ n2_ n3_; clear hb hbox hg))
  (try simp only [Act.put, List.setIfInBounds_toArray, List.set_cons_zero, List.set_cons_succ])
  go_cut [4] (fun v4 wc => ∃ (kq : Nat) (x4_1 : Bool), v4 = .bool x4_1 ∧ Aside0 (chanceryref17_Truth.j0 kq x4_1 a0_0 a0_1 a0_2 = some (r1, r2)) ∧ Aside0 (kq ≤ k) ∧ Aside0 (wc.heap[gb615]? = some (.cells #[.int .u8 a0_0, .int .i64 a0_1, .string a0_2] 25 (0, 0))) ∧ Aside0 (Below w.heap.size w wc))
  case first =>
    have H := HC2.out
    clear HC2
    replace H := Option.bind_eq_some_iff.mp H
    obtain ⟨t616, A40, H⟩ := H
    replace H : (if t616 = true then (chanceryref17_Truth.j0 k (decide (a0_0 > 1)) a0_0 a0_1 a0_2) else (chanceryref17_Truth.j0 k true a0_0 a0_1 a0_2)) = some (r1, r2) := H
    have A4 := Aside0.mk A40
    clear A40
    by_cases c5 : t616 = true
    · subst c5
      have H1 : (chanceryref17_Truth.j0 k (decide (a0_0 > 1)) a0_0 a0_1 a0_2) = some (r1, r2) := by rw [if_pos rfl] at H; exact H
      clear H
      have H := H1
      clear H1
      have H' := Aside0.mk H
      clear H
      have hcz6_0 : w3.cell? ⟨gb615, 0, none⟩ = some (.int .u8 a0_0) := (blk_cell BK615.out 0).trans rfl
      have hcz6_1 : w3.cell? ⟨gb615, 1, none⟩ = some (.int .i64 a0_1) := (blk_cell BK615.out 1).trans rfl
      have hcz6_2 : w3.cell? ⟨gb615, 2, none⟩ = some (.string a0_2) := (blk_cell BK615.out 2).trans rfl
      have hfz6_0 := blk_frozen BK615.out 0
      have hfz6_1 := blk_frozen BK615.out 1
      have hfz6_2 := blk_frozen BK615.out 2
      go_wp2_with (first | ((with_reducible refine gate_callee (f := 14) rfl ?_); refine goesL_ (some 6) rfl rfl Tryd.func14 (by kernel_rfl) rfl #[.agg #[.int .u8 a0_0, .int .i64 a0_1, .string a0_2]] rfl (by (try simp only [List.map_toArray, List.map_cons, List.map_nil]); first | done | rfl | (simp only [List.length_drop, List.length_take]; rfl)) ?_; (with_reducible refine (chanceryref17_Right.calls k a0_0 a0_1 a0_2 true _ A4.out).mono ?_); rintro e w7 ⟨rfl, hb⟩; refine ⟨_, rfl, ?_⟩; have n0_ := Aside0.mk (blk_below (g := gb615) (o := .cells #[.int .u8 a0_0, .int .i64 a0_1, .string a0_2] 25 (0, 0)) (by (with_reducible repeat (first | refine blk_drewN ?_ _ | refine blk_drew ?_ | refine blk_alloc ?_ _)); exact BK615.out) hb); have n1_ := Aside0.mk (below_step (by repeat (first | (with_reducible first | exact HB.out | apply below_alloc | apply pw_below_drewN | apply below_drew1 | refine below_set ?_ GE615.out) | exact HB.out)) hb); clear BK615; clear HB; have BK615 := n0_; have HB := n1_; clear n0_ n1_; (try clear hb); (try clear hb2); (try clear hk); (try clear hi); have hcz8_0 : w7.cell? ⟨gb615, 0, none⟩ = some (.int .u8 a0_0) := (blk_cell BK615.out 0).trans rfl; have hcz8_1 : w7.cell? ⟨gb615, 1, none⟩ = some (.int .i64 a0_1) := (blk_cell BK615.out 1).trans rfl; have hcz8_2 : w7.cell? ⟨gb615, 2, none⟩ = some (.string a0_2) := (blk_cell BK615.out 2).trans rfl; have hfz8_0 := blk_frozen BK615.out 0; have hfz8_1 := blk_frozen BK615.out 1; have hfz8_2 := blk_frozen BK615.out 2))
      go_meet
      case rel => exact ⟨_, (decide (a0_0 > 1)), (by first | rfl | (simp; done) | (simp [*]; done)), H', ⟨by first | omega | exact Nat.le_refl _⟩, ⟨by (with_reducible repeat (first | refine blk_drewN ?_ _ | refine blk_drew ?_ | refine blk_alloc ?_ _)); exact BK615.out⟩, ⟨by repeat (first | (with_reducible first | exact HB.out | apply below_alloc | apply pw_below_drewN | apply below_drew1 | refine below_set ?_ GE615.out) | exact HB.out)⟩⟩
    · replace c5 := Bool.eq_false_iff.mpr c5
      subst c5
      have H1 : (chanceryref17_Truth.j0 k true a0_0 a0_1 a0_2) = some (r1, r2) := by rw [if_neg (show ¬ (false = true) by decide)] at H; exact H
      clear H
      have H := H1
      clear H1
      have H' := Aside0.mk H
      clear H
      have hcz9_0 : w3.cell? ⟨gb615, 0, none⟩ = some (.int .u8 a0_0) := (blk_cell BK615.out 0).trans rfl
      have hcz9_1 : w3.cell? ⟨gb615, 1, none⟩ = some (.int .i64 a0_1) := (blk_cell BK615.out 1).trans rfl
      have hcz9_2 : w3.cell? ⟨gb615, 2, none⟩ = some (.string a0_2) := (blk_cell BK615.out 2).trans rfl
      have hfz9_0 := blk_frozen BK615.out 0
      have hfz9_1 := blk_frozen BK615.out 1
      have hfz9_2 := blk_frozen BK615.out 2
      go_wp2_with (first | ((with_reducible refine gate_callee (f := 14) rfl ?_); refine goesL_ (some 6) rfl rfl Tryd.func14 (by kernel_rfl) rfl #[.agg #[.int .u8 a0_0, .int .i64 a0_1, .string a0_2]] rfl (by (try simp only [List.map_toArray, List.map_cons, List.map_nil]); first | done | rfl | (simp only [List.length_drop, List.length_take]; rfl)) ?_; (with_reducible refine (chanceryref17_Right.calls k a0_0 a0_1 a0_2 false _ A4.out).mono ?_); rintro e w10 ⟨rfl, hb⟩; refine ⟨_, rfl, ?_⟩; have n0_ := Aside0.mk (blk_below (g := gb615) (o := .cells #[.int .u8 a0_0, .int .i64 a0_1, .string a0_2] 25 (0, 0)) (by (with_reducible repeat (first | refine blk_drewN ?_ _ | refine blk_drew ?_ | refine blk_alloc ?_ _)); exact BK615.out) hb); have n1_ := Aside0.mk (below_step (by repeat (first | (with_reducible first | exact HB.out | apply below_alloc | apply pw_below_drewN | apply below_drew1 | refine below_set ?_ GE615.out) | exact HB.out)) hb); clear BK615; clear HB; have BK615 := n0_; have HB := n1_; clear n0_ n1_; (try clear hb); (try clear hb2); (try clear hk); (try clear hi)))
      go_meet
      case rel => exact ⟨_, (true), (by first | rfl | (simp; done) | (simp [*]; done)), H', ⟨by first | omega | exact Nat.le_refl _⟩, ⟨by (with_reducible repeat (first | refine blk_drewN ?_ _ | refine blk_drew ?_ | refine blk_alloc ?_ _)); exact BK615.out⟩, ⟨by repeat (first | (with_reducible first | exact HB.out | apply below_alloc | apply pw_below_drewN | apply below_drew1 | refine below_set ?_ GE615.out) | exact HB.out)⟩⟩
  case rest =>
    clear HC2
    try clear c1
    try clear p2
    try clear c3
    try clear c5
    try clear hcz6_0
    try clear hcz6_1
    try clear hcz6_2
    try clear hcz8_0
    try clear hcz8_1
    try clear hcz8_2
    try clear hcz9_0
    try clear hcz9_1
    try clear hcz9_2
    try clear hfz6_0
    try clear hfz6_1
    try clear hfz6_2
    try clear hfz8_0
    try clear hfz8_1
    try clear hfz8_2
    try clear hfz9_0
    try clear hfz9_1
    try clear hfz9_2
    obtain ⟨kq, x4_1, rfl, HA, HJ1, BK615, HB⟩ := hcut
    cases kq with
    | zero => exact absurd HA.out (by simp [chanceryref17_Truth.j0])
    | succ kj1 =>
      have H := HA.out
      clear HA
      simp only [chanceryref17_Truth.j0] at H
      by_cases c11 : x4_1 = true
      · subst c11
        have H1 : (some (0, 270)) = some (r1, r2) := by rw [if_pos rfl] at H; exact H
        clear H
        have H := H1
        clear H1
        simp only [Option.some.injEq, Prod.mk.injEq] at H
        obtain ⟨rfl, rfl⟩ := H
        go_wp2
        go_ret2
        exact ⟨by first | rfl | (simp [errW_none, errW_some] <;> rfl) | (simp [*, errW_none, errW_some] <;> rfl), by repeat (first | (with_reducible first | exact HB.out | apply below_alloc | apply pw_below_drewN | apply below_drew1 | refine below_set ?_ GE615.out) | exact HB.out)⟩
      · replace c11 := Bool.eq_false_iff.mpr c11
        subst c11
        have H1 : (if a0_0 = 0 then (some (2, 0)) else (if a0_1 = 1 then (some (1, 0)) else (some (0, 0)))) = some (r1, r2) := by rw [if_neg (show ¬ (false = true) by decide)] at H; exact H
        clear H
        have H := H1
        clear H1
        by_cases c12 : a0_0 = 0
        · rw [if_pos c12] at H
          have c12b0 : (a0_0 == 0) = true := beq_iff_eq.mpr c12
          have c12b1 : (a0_0 != 0) = false := bne_eq_false_iff_eq.mpr c12
          clear c12
          simp only [Option.some.injEq, Prod.mk.injEq] at H
          obtain ⟨rfl, rfl⟩ := H
          have hcz13_0 : wc.cell? ⟨gb615, 0, none⟩ = some (.int .u8 a0_0) := (blk_cell BK615.out 0).trans rfl
          have hcz13_1 : wc.cell? ⟨gb615, 1, none⟩ = some (.int .i64 a0_1) := (blk_cell BK615.out 1).trans rfl
          have hcz13_2 : wc.cell? ⟨gb615, 2, none⟩ = some (.string a0_2) := (blk_cell BK615.out 2).trans rfl
          have hfz13_0 := blk_frozen BK615.out 0
          have hfz13_1 := blk_frozen BK615.out 1
          have hfz13_2 := blk_frozen BK615.out 2
          go_wp2
          go_ret2
          exact ⟨by first | rfl | (simp [errW_none, errW_some] <;> rfl) | (simp [*, errW_none, errW_some] <;> rfl), by repeat (first | (with_reducible first | exact HB.out | apply below_alloc | apply pw_below_drewN | apply below_drew1 | refine below_set ?_ GE615.out) | exact HB.out)⟩
        · rw [if_neg c12] at H
          have c12b0 : (a0_0 == 0) = false := beq_eq_false_iff_ne.mpr c12
          have c12b1 : (a0_0 != 0) = true := bne_iff_ne.mpr c12
          by_cases c14 : a0_1 = 1
          · rw [if_pos c14] at H
            have c14b0 : (a0_1 == 1) = true := beq_iff_eq.mpr c14
            have c14b1 : (a0_1 != 1) = false := bne_eq_false_iff_eq.mpr c14
            clear c14
            simp only [Option.some.injEq, Prod.mk.injEq] at H
            obtain ⟨rfl, rfl⟩ := H
            have hcz15_0 : wc.cell? ⟨gb615, 0, none⟩ = some (.int .u8 a0_0) := (blk_cell BK615.out 0).trans rfl
            have hcz15_1 : wc.cell? ⟨gb615, 1, none⟩ = some (.int .i64 a0_1) := (blk_cell BK615.out 1).trans rfl
            have hcz15_2 : wc.cell? ⟨gb615, 2, none⟩ = some (.string a0_2) := (blk_cell BK615.out 2).trans rfl
            have hfz15_0 := blk_frozen BK615.out 0
            have hfz15_1 := blk_frozen BK615.out 1
            have hfz15_2 := blk_frozen BK615.out 2
            go_wp2
            go_ret2
            exact ⟨by first | rfl | (simp [errW_none, errW_some] <;> rfl) | (simp [*, errW_none, errW_some] <;> rfl), by repeat (first | (with_reducible first | exact HB.out | apply below_alloc | apply pw_below_drewN | apply below_drew1 | refine below_set ?_ GE615.out) | exact HB.out)⟩
          · rw [if_neg c14] at H
            have c14b0 : (a0_1 == 1) = false := beq_eq_false_iff_ne.mpr c14
            have c14b1 : (a0_1 != 1) = true := bne_iff_ne.mpr c14
            simp only [Option.some.injEq, Prod.mk.injEq] at H
            obtain ⟨rfl, rfl⟩ := H
            have hcz16_0 : wc.cell? ⟨gb615, 0, none⟩ = some (.int .u8 a0_0) := (blk_cell BK615.out 0).trans rfl
            have hcz16_1 : wc.cell? ⟨gb615, 1, none⟩ = some (.int .i64 a0_1) := (blk_cell BK615.out 1).trans rfl
            have hcz16_2 : wc.cell? ⟨gb615, 2, none⟩ = some (.string a0_2) := (blk_cell BK615.out 2).trans rfl
            have hfz16_0 := blk_frozen BK615.out 0
            have hfz16_1 := blk_frozen BK615.out 1
            have hfz16_2 := blk_frozen BK615.out 2
            go_wp2
            go_ret2
            exact ⟨by first | rfl | (simp [errW_none, errW_some] <;> rfl) | (simp [*, errW_none, errW_some] <;> rfl), by repeat (first | (with_reducible first | exact HB.out | apply below_alloc | apply pw_below_drewN | apply below_drew1 | refine below_set ?_ GE615.out) | exact HB.out)⟩
end Go.Proofs.YtbodlnoipkommaaDoor.Q
namespace Go.Proofs.YtbodlnoipkommaaDoor.Q
open Go.RowKit Go.Proofs.YtbodlnoipkommaaDoorW.PrintWords Go.Proofs.YtbodlnoipkommaaDoorW.PrintLast Go.Proofs.YtbodlnoipkommaaDoorW.PrintMore
attribute [local go_sem] max2_int min2_int max_two min_two max_three min_three max_four min_four   -- for this text's walks alone
set_option linter.unusedVariables false
set_option linter.unusedSimpArgs false
def chanceryref17_known.f (a0 : Int) : Option (Int) := if a0 = 1 then (some a0) else (if a0 = 0 then (some a0) else (some 2))
set_option maxHeartbeats 8000000 in
set_option maxRecDepth 100000 in
theorem chanceryref17_known.calls (a0 : Int) (r : Int) (w : World) (h : chanceryref17_known.f a0 = some r) :
    Calls Tryd.prog 71 #[.int .u8 a0] w fun e w' => e = .returned (.int .u8 r) ∧ Drawn0 w w' := by
  have H : (if a0 = 1 then (some a0) else (if a0 = 0 then (some a0) else (some 2))) = some r := h
  clear h
  by_cases c2 : a0 = 1
  · rw [if_pos c2] at H
    have c2b0 : (a0 == 1) = true := beq_iff_eq.mpr c2
    have c2b1 : (a0 != 1) = false := bne_eq_false_iff_eq.mpr c2
    clear c2
    obtain rfl := Option.some.inj H
    go_enter Tryd.func71, Tryd.ntmps71
    go_wp2
    go_ret
    exact ⟨by first | rfl | (simp; done) | (simp [*]; done), by repeat (first | exact Drawn0.refl _ | apply Drawn0.step)⟩
  · rw [if_neg c2] at H
    have c2b0 : (a0 == 1) = false := beq_eq_false_iff_ne.mpr c2
    have c2b1 : (a0 != 1) = true := bne_iff_ne.mpr c2
    by_cases c3 : a0 = 0
    · rw [if_pos c3] at H
      have c3b0 : (a0 == 0) = true := beq_iff_eq.mpr c3
      have c3b1 : (a0 != 0) = false := bne_eq_false_iff_eq.mpr c3
      clear c3
      obtain rfl := Option.some.inj H
      go_enter Tryd.func71, Tryd.ntmps71
      go_wp2
      go_ret
      exact ⟨by first | rfl | (simp; done) | (simp [*]; done), by repeat (first | exact Drawn0.refl _ | apply Drawn0.step)⟩
    · rw [if_neg c3] at H
      have c3b0 : (a0 == 0) = false := beq_eq_false_iff_ne.mpr c3
      have c3b1 : (a0 != 0) = true := bne_iff_ne.mpr c3
      obtain rfl := Option.some.inj H
      go_enter Tryd.func71, Tryd.ntmps71
      go_wp2
      go_ret
      exact ⟨by first | rfl | (simp; done) | (simp [*]; done), by repeat (first | exact Drawn0.refl _ | apply Drawn0.step)⟩
end Go.Proofs.YtbodlnoipkommaaDoor.Q

/- Merged out of this session's texts: Pi, Ryi, CardValueCompares -/
import Derived.Test.YtbodlnoipkommaaDoorZc8
import Derived.Test.YtbodlnoipkommaaDoorZc9
import Derived.Test.YtbodlnoipkommaaDoorZc10
import Derived.Test.YtbodlnoipkommaaDoorZc3
import Derived.Test.YtbodlnoipkommaaDoorZc4
namespace Go.Proofs.YtbodlnoipkommaaDoor.Pi
open Go Go.RowKit Go.Proofs.YtbodlnoipkommaaDoor.Q Go.Proofs.YtbodlnoipkommaaDoor.Ra Go.Proofs.YtbodlnoipkommaaDoor.Rb Go.Proofs.YtbodlnoipkommaaDoor.Rc Go.Proofs.YtbodlnoipkommaaDoor.Rd Go.Proofs.YtbodlnoipkommaaDoor.Wh Go.Proofs.YtbodlnoipkommaaDoor.Wp Go.Proofs.YtbodlnoipkommaaDoor.Pa Go.Proofs.YtbodlnoipkommaaDoor.Pb Go.Proofs.YtbodlnoipkommaaDoor.Pc Go.Proofs.YtbodlnoipkommaaDoor.Ph Go.Proofs.YtbodlnoipkommaaDoor.Xa Go.Proofs.YtbodlnoipkommaaDoor.Xd Go.Proofs.YtbodlnoipkommaaDoorW.PrintWords Go.Proofs.YtbodlnoipkommaaDoorW.PrintLast Go.Proofs.YtbodlnoipkommaaDoorW.PrintMore
theorem cmp_f (op k0 n0 : Int) (s0 : ByteArray) (k1 n1 : Int) (s1 : ByteArray) (h0 : I64 n0) (h1 : I64 n1) : value_Compare.f op k0 n0 s0 k1 n1 s1 = some (compareR op k0 n0 s0 k1 n1 s1) := by
  unfold value_Compare.f; rw [if_pos ⟨h0, h1⟩]
theorem j3_f (j : Nat) (op c : Int) : chanceryref17_Compare.j3 (j + 1) op c = some (boolT (cmpop op c), 0) := by
  rw [chanceryref17_Compare.j3]
  unfold cmpop boolT
  by_cases h7 : op = 7
  · subst h7; by_cases h : c = 0
    · simp [h]
    · have e := beq_false_of_ne h; simp [h, e]
  by_cases h8 : op = 8
  · subst h8; by_cases h : c = 0
    · simp [h]
    · have e := beq_false_of_ne h; simp [h, e, bne]
  by_cases h9 : op = 9
  · subst h9; by_cases h : c < 0 <;> simp [h]
  by_cases h10 : op = 10
  · subst h10; by_cases h : c ≤ 0 <;> simp [h]
  by_cases h11 : op = 11
  · subst h11; by_cases h : c > 0 <;> simp [h]
  by_cases h12 : op = 12
  · subst h12; by_cases h : c ≥ 0 <;> simp [h]
  rw [beq_false_of_ne h7, beq_false_of_ne h8, beq_false_of_ne h9, beq_false_of_ne h10, beq_false_of_ne h11, beq_false_of_ne h12, if_neg h7, if_neg h8, if_neg h9, if_neg h10, if_neg h11, if_neg h12]; rfl
theorem neg_abs (z : Int) : vl (!decide (z < 0)) (absI z) = -z := by
  unfold vl absI
  by_cases h : z < 0
  · rw [if_neg (by simp [h]), if_pos h]
  · rw [if_pos (by simp [h]), if_neg h]
theorem sz_of {m : Int} (h0 : 0 ≤ m) (h1 : m ≤ 1000000000000000000000000000000000000000000000) : Sz m := ⟨h0, by omega⟩
theorem j2_f (j : Nat) (op k0 n0 : Int) (s0 : ByteArray) (k1 n1 : Int) (s1 : ByteArray) (h0 : I64 n0) (h1 : I64 n1) :
    chanceryref17_Compare.j2 (j + 2) op false k0 n0 s0 k1 n1 s1 = some (boolT (cmpop op (sgn (fixV k0 n0 - fixV k1 n1))), 0) := by
  rw [chanceryref17_Compare.j2]
  rw [if_neg (by decide), fixedB k1 n1 s1 h1, fixedB k0 n0 s0 h0]
  simp only [Option.bind_some, B]
  have a0 := fix_abs k0 n0 h0
  have a1 := fix_abs k1 n1 h1
  obtain ⟨u, c, he, hc, hv⟩ := addB (decide (fixV k0 n0 < 0)) (absI (fixV k0 n0)) (!decide (fixV k1 n1 < 0)) (absI (fixV k1 n1)) (sz_of a0.1 (by omega)) (sz_of a1.1 (by omega)) (sz_of (by omega) (by omega))
  rw [he]
  simp only [Option.bind_some, B]
  rw [signB u c hc, hv, vl_abs, neg_abs]
  simp only [Option.bind_some]
  rw [j3_f]
  rfl
theorem ref_compare (j : Nat) (op k0 n0 : Int) (s0 : ByteArray) (k1 n1 : Int) (s1 : ByteArray) (h0 : I64 n0) (h1 : I64 n1) :
    chanceryref17_Compare.f (j + 4) op k0 n0 s0 k1 n1 s1 = some (compareR op k0 n0 s0 k1 n1 s1) := by
  unfold chanceryref17_Compare.f compareR
  have t : ∀ a b c d e f g, chanceryref17_Compare.j0 (j + 4) a true b c d e f g = some (0, 2) := fun a b c d e f g => by rw [chanceryref17_Compare.j0]; rfl
  simp only [ref_right, Option.bind_some]
  rw [t]
  by_cases o7 : op < 7
  · rw [if_pos o7, if_pos (Or.inl o7)]
  by_cases o12 : op > 12
  · rw [if_neg o7, if_pos o12, if_pos (Or.inr (Or.inl o12))]
  rw [if_neg o7, if_neg o12]
  cases hr0 : rightB k0 n0 s0
  · rw [if_neg (by decide), if_pos (Or.inr (Or.inr (Or.inl rfl)))]
  cases hr1 : rightB k1 n1 s1
  · rw [if_pos rfl, Bool.not_false, t, if_pos (Or.inr (Or.inr (Or.inr rfl)))]
  rw [if_pos rfl, if_neg (by rintro (c | c | c | c); exact o7 c; exact o12 c; cases c; cases c), Bool.not_true, chanceryref17_Compare.j0, if_neg (by decide)]
  have t1 : ∀ a b c d e f g, chanceryref17_Compare.j1 (j + 3) a true b c d e f g = some (2, 0) := fun a b c d e f g => by rw [chanceryref17_Compare.j1]; rfl
  by_cases z0 : k0 = 0
  · rw [if_pos z0, t1, if_pos (Or.inl z0)]
  by_cases z1 : k1 = 0
  · rw [if_neg z0, show (k1 == 0) = true from beq_iff_eq.2 z1, t1, if_pos (Or.inr z1)]
  rw [if_neg z0, beq_false_of_ne z1, chanceryref17_Compare.j1, if_neg (by decide), ref_order, if_neg (by rintro (c | c); exact z0 c; exact z1 c)]
  simp only [Option.bind_some]
  by_cases hk : k0 = k1
  · rw [if_pos hk, if_pos hk, j3_f]
  rw [if_neg hk, if_neg hk, ref_number, ref_number]
  simp only [Option.bind_some]
  have t2 : ∀ a b c d e f g, chanceryref17_Compare.j2 (j + 2) a true b c d e f g = some (0, 270) := fun a b c d e f g => by rw [chanceryref17_Compare.j2]; rfl
  cases e0 : numB k0
  · rw [if_neg (by decide), t2, if_neg (by rintro ⟨c, _⟩; cases c)]
  cases e1 : numB k1
  · rw [if_pos rfl, Bool.not_false, t2, if_neg (by rintro ⟨_, c⟩; cases c)]
  rw [if_pos rfl, Bool.not_true, j2_f _ _ _ _ _ _ _ _ h0 h1, if_pos ⟨rfl, rfl⟩]
theorem compares_true (op k0 n0 : Int) (s0 : ByteArray) (k1 n1 : Int) (s1 : ByteArray) (h0 : I64 n0) (h1 : I64 n1) :
    chancerylaw17_ValueCompares.f 4 op k0 n0 s0 k1 n1 s1 = some true := by
  unfold chancerylaw17_ValueCompares.f
  rw [cmp_f op k0 n0 s0 k1 n1 s1 h0 h1, ref_compare 0 op k0 n0 s0 k1 n1 s1 h0 h1]
  simp only [Option.bind_some, if_true, order_f, ref_order, right_f, ref_right, beq_self_eq_true]
  rfl
end Go.Proofs.YtbodlnoipkommaaDoor.Pi
namespace Go.Proofs.YtbodlnoipkommaaDoor.Ry
open Go.RowKit
theorem i64_of {n : Int} (h : (Lit.int .i64 n).wf = true) : Wp.I64 n := by
  have h' : decide (IntKind.i64.min ≤ n) = true ∧ decide (n ≤ IntKind.i64.max) = true := by simpa [Lit.wf] using h
  have a := of_decide_eq_true h'.1
  have b := of_decide_eq_true h'.2
  have e1 : IntKind.i64.min = -9223372036854775808 := rfl
  have e2 : IntKind.i64.max = 9223372036854775807 := rfl
  rw [e1] at a
  rw [e2] at b
  exact ⟨a, by omega⟩
end Go.Proofs.YtbodlnoipkommaaDoor.Ry
namespace Go.Proofs.YtbodlnoipkommaaDoor.valueCompares
open Go.ChangeShapes Go.WideShapes Go.ChangeAt Go.RowKit Go.Proofs.YtbodlnoipkommaaDoor.Ry
open Go.ChangeMaps (open_string shut_string)
set_option linter.unusedVariables false
set_option maxRecDepth 100000 in
theorem lifted (os : Os) (started : os.Started) (H : Type) (enc : TypeId × Value → H) :
    ReturnsInHanded {} Tryd.checked os 3 .any (fun w args => (Rows.valueComparesSpec.pre enc Tryd.prog Tryd.f3 Rows.valueComparesRow.domain false w args ∧ laidMetH Tryd.prog laidL w) ∧ sizedMet enc Tryd.prog Tryd.f3 (OpenSpec.ofChange Rows.valueComparesSpec) false w args)
      (Rows.valueComparesSpec.post enc Tryd.prog Tryd.f3 false true false false) := by
  refine wrap (C := Tryd.checked) own started (by kernel_rfl) Tryd.func3
    (ChangeSpec.witness_shaped (enc := enc) (C := Tryd.checked) (os := os) (X := fun w _ => laidMetH Tryd.prog laidL w) false (World.laidAll Tryd.prog os laidL) #[.int .u8 0, .agg #[.int .u8 0, .int .i64 0, .string ByteArray.empty], .agg #[.int .u8 0, .int .i64 0, .string ByteArray.empty]] 8 (World.laidAll_os _ _ _)
      (World.shaped_of_ZipB (by kernel_rfl) (by kernel_rfl)) (by kernel_rfl) (by kernel_rfl) (by kernel_rfl)
      (by rw [MakeChecks.laidMetH_plain _ _ _ (by kernel_rfl)]; exact laidMet_laidAll _ (by kernel_rfl) (by kernel_rfl))) ?_
  intro W base args ds gs before hval0 hW hsz0 hL hsh
  have hsz : (DataW.weightsEach Tryd.prog (Tryd.f3.params.toList ++ Rows.valueComparesSpec.plain.varTypes Tryd.prog) (ds ++ gs)).all (· ≤ reachBytes) = true := hsz0
  have hval : ∀ (j : Nat) t v, Tryd.f3.params[j]? = some t → args[j]? = some v → Value.okWide Tryd.prog W .any base t v := hval0
  have hW' := hW
  obtain ⟨p, q, hA0, hV, rfl, hfz, hnd⟩ := hW
  have hA : DataW.TrodAll enc Tryd.prog W 0 (fun _ => true) true Tryd.f3.params.toList args.toList ds p := hA0
  rw [Tryd.params3] at hA hval hsz
  obtain ⟨v0, vs0, d0, ds0, p0, q0, hargs, rfl, rfl, h0, r0⟩ := trodAll_cons hA
  obtain ⟨v1, vs1, d1, ds1, p1, q1, rfl, rfl, rfl, h1, r1⟩ := trodAll_cons r0
  obtain ⟨v2, vs2, d2, ds2, p2, q2, rfl, rfl, rfl, h2, r2⟩ := trodAll_cons r1
  obtain ⟨rfl, rfl, rfl⟩ := trodAll_nil r2
  obtain rfl : args = #[v0, v1, v2] := by cases args; simp_all
  obtain ⟨rfl, rfl⟩ := trodVars_none hV
  obtain ⟨a0, rfl, rfl, rfl, w0⟩ := open_int Tryd.underlying22 (hval 0 22 v0 rfl rfl) h0
  obtain ⟨k1, n1, s1, rfl, rfl, rfl, wk1, wn1, ws1⟩ := open_val (hval 1 25 v1 rfl rfl) h1
  obtain ⟨k2, n2, s2, rfl, rfl, rfl, wk2, wn2, ws2⟩ := open_val (hval 2 25 v2 rfl rfl) h2
  clear hA0 hval0 hsz0 hsz
  refine (Q.chancerylaw17_ValueCompares.calls 4 a0 k1 n1 s1 k2 n2 s2 true W (Pi.compares_true a0 k1 n1 s1 k2 n2 s2 (i64_of wn1) (i64_of wn2)) (vok hL hsh)).mono fun e W' ⟨he, bel⟩ => ?_
  subst he
  exact ⟨_, rfl, _, _, _, [], _, [], hW', trodAll_mk1 (shut_bool Tryd.underlying4 _), (trodAll_cons_mk (shut_int Tryd.underlying22 w0) (trodAll_cons_mk (shut_val wk1 wn1 ws1) (trodAll_cons_mk (shut_val wk2 wn2 ws2) trodAll_mk0))), rfl, bel.frame _, fun h => by cases h⟩
theorem over : Rows.valueComparesRow.holds Tryd.pinned (OpenSpec.ofChange Rows.valueComparesSpec) :=
  OpenClaim.holds_of_wide 3 Tryd.f3 rfl rfl rfl rfl rfl rfl rfl ⟨rfl, rfl, rfl, rfl, rfl⟩ rfl rfl rfl rfl rfl (by kernel_rfl) Tryd.func3 (by kernel_rfl)
    (of_decide_eq_true (by kernel_rfl)) (by unfold Func.isWrapper; first | (rw [if_pos (by decide +kernel)]; kernel_rfl) | (rw [if_neg (by decide +kernel)]; exact ⟨rfl, rfl⟩))
    (fun os started H enc _ => lifted os started H enc)
theorem proved : Rows.ValueComparesSaid := over
end Go.Proofs.YtbodlnoipkommaaDoor.valueCompares
namespace Go.Proofs.YtbodlnoipkommaaDoor
open Go
set_option maxRecDepth 100000 in
theorem valueComparesCard_holds : Rows.ValueComparesCardSaid :=
  Claim7.holds_tied_plain_at .later [] [.data, .data, .data, .data, .data, .pinned] true (true, "acebfd297a6da68244793249f8eee2e59a50f107c55ed398f41256a6c8c49e27") false
    valueCompares.proved (fun _ h => by cases h) (by kernel_rfl) (fun _ h => by cases h) valueCompares_row_tie rfl ⟨rfl, rfl⟩ (by kernel_rfl) rfl
    (fun f fn hf hfn => by
      obtain rfl : f = 3 := Option.some.inj ((show Tryd.prog.funcNamed "chancery/chancerylaw17.ValueCompares" = some 3 by kernel_rfl).symm.trans hf) |>.symm
      obtain rfl : fn = Tryd.f3 := (Option.some.inj (Tryd.func3.symm.trans hfn)).symm
      exact ⟨by kernel_rfl, fun j t ht => by
        rw [Tryd.params3] at ht
        have hm : t ∈ [22, 25, 25] := by simpa using Array.mem_of_getElem? ht
        have hu : t = 22 ∨ t = 25 := by simpa [or_assoc] using hm
        rcases hu with rfl | rfl
        · exact (show Tryd.prog.wantsStandIn 22 = false by kernel_rfl)
        · exact (show Tryd.prog.wantsStandIn 25 = false by kernel_rfl)⟩)
    (by kernel_rfl)
#print axioms valueComparesCard_holds
end Go.Proofs.YtbodlnoipkommaaDoor

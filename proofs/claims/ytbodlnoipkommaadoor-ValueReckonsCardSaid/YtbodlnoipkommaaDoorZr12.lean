/- Merged out of this session's texts: Pn, Ryi, CardValueReckons -/
import Derived.Test.YtbodlnoipkommaaDoorZr10
import Derived.Test.YtbodlnoipkommaaDoorZr11
import Derived.Test.YtbodlnoipkommaaDoorZr3
import Derived.Test.YtbodlnoipkommaaDoorZr4
set_option linter.unusedVariables false
set_option linter.unusedSimpArgs false
namespace Go.Proofs.YtbodlnoipkommaaDoor.Pn
open Go Go.RowKit Go.Proofs.YtbodlnoipkommaaDoor.Q Go.Proofs.YtbodlnoipkommaaDoor.Wf Go.Proofs.YtbodlnoipkommaaDoor.Wh Go.Proofs.YtbodlnoipkommaaDoor.Wk Go.Proofs.YtbodlnoipkommaaDoor.Wo Go.Proofs.YtbodlnoipkommaaDoor.Wp Go.Proofs.YtbodlnoipkommaaDoor.Pa Go.Proofs.YtbodlnoipkommaaDoor.Pb Go.Proofs.YtbodlnoipkommaaDoor.Pc Go.Proofs.YtbodlnoipkommaaDoor.Ph Go.Proofs.YtbodlnoipkommaaDoor.Pj Go.Proofs.YtbodlnoipkommaaDoor.Xr Go.Proofs.YtbodlnoipkommaaDoor.Ra Go.Proofs.YtbodlnoipkommaaDoor.Rb Go.Proofs.YtbodlnoipkommaaDoor.Rc Go.Proofs.YtbodlnoipkommaaDoor.Rd Go.Proofs.YtbodlnoipkommaaDoorW.PrintWords Go.Proofs.YtbodlnoipkommaaDoorW.PrintLast Go.Proofs.YtbodlnoipkommaaDoorW.PrintMore
theorem vl_neg (z : Int) : vl (!decide (z < 0)) (absI z) = -z := by
  unfold vl absI
  by_cases c : z < 0
  · rw [if_neg (by simp [c]), if_pos c]
  · rw [if_pos (by simp [c]), if_neg c]
theorem ref_sub (j : Nat) (k0 n0 : Int) (s0 : ByteArray) (k1 n1 : Int) (s1 : ByteArray) (h0 : I64 n0) (h1 : I64 n1) :
    rf17_Sub.f (j + 2) k0 n0 s0 k1 n1 s1 = some (subR k0 n0 s0 k1 n1 s1) := by
  unfold rf17_Sub.f subR
  rw [ref_asked (j + 1)]
  simp only [Option.bind_some]
  have hj : ∀ e, rf17_Sub.j0 (j + 2) e true k0 n0 s0 k1 n1 s1 = some (0, 0, ⟨#[]⟩, e) := fun e => by rw [rf17_Sub.j0]; rfl
  by_cases he : (askedR k0 n0 s0 k1 n1 s1).2 = 0
  · rw [if_pos he]
    cases hb : (askedR k0 n0 s0 k1 n1 s1).1
    · rw [if_neg (by rintro (c | c); exact c he; cases c), rf17_Sub.j0, if_neg (by decide), bigB n0 h0, bigB n1 h1]
      simp only [Option.bind_some, B]
      have hd : ∀ x10 a b c d e f a' b' c' d' e' f', rf17_Sub.j1 (j + 1) x10 true k0 n0 s0 k1 n1 s1 a b c d e f a' b' c' d' e' f' = some (toldR 3 (fixV k0 n0 - fixV k1 n1)) := fun x10 a b c d e f a' b' c' d' e' f' => by
        rw [rf17_Sub.j1, if_pos rfl, fixedB k0 n0 s0 h0, fixedB k1 n1 s1 h1]
        simp only [Option.bind_some, B, bind4]
        exact sumB _ _ (fix_abs k0 n0 h0).2 (fix_abs k1 n1 h1).2 3 _ _ _ _ (vl_abs _) (vl_neg _)
      by_cases hk : k0 = 2 ∧ k1 = 2
      · rw [if_pos hk.1, show (k1 != 2) = false from bne_eq_false_iff_eq.2 hk.2, if_pos hk, rf17_Sub.j1, if_neg (by decide)]
        simp only [Option.bind_some, bind4]
        exact sumB n0 n1 (abs_i64 h0) (abs_i64 h1) 2 _ _ _ _ (vl_abs n0) (vl_neg n1)
      · rw [if_neg hk]
        by_cases h2 : k0 = 2
        · rw [if_pos h2, show (k1 != 2) = true from bne_iff_ne.2 (fun c => hk ⟨h2, c⟩), hd]
        · rw [if_neg h2, hd]
    · rw [hj, if_pos (Or.inr rfl)]
  · rw [if_neg he, hj, if_pos (Or.inl he)]
theorem reckons_calls (k0 n0 : Int) (s0 : ByteArray) (k1 n1 : Int) (s1 : ByteArray) (w : World) (hg : VOK w) (h0 : I64 n0) (h1 : I64 n1) :
    Calls Tryd.prog 6 #[.agg #[.int .u8 k0, .int .i64 n0, .string s0], .agg #[.int .u8 k1, .int .i64 n1, .string s1]] w fun e w' => e = .returned (.bool true) ∧ Below w.heap.size w w' :=
  reckons_walk k0 n0 k1 n1 _ _ _ _ _ _ _ _ _ _ _ _ s0 s1 _ _ _ _ w hg
    (fun W => value_Add.calls k0 n0 s0 k1 n1 s1 _ _ _ _ W (add_f k0 n0 s0 k1 n1 s1 h0 h1)) (fun W => value_Sub.calls k0 n0 s0 k1 n1 s1 _ _ _ _ W (sub_f k0 n0 s0 k1 n1 s1 h0 h1))
    (fun W => value_Mul.calls 3 k0 n0 s0 k1 n1 s1 _ _ _ _ W (mul_f 0 k0 n0 s0 k1 n1 s1 h0 h1)) (fun W => value_Neg.calls 1 k0 n0 s0 _ _ _ _ W (neg_f 0 k0 n0 s0 h0))
    (fun W => rf17_Add.calls 2 k0 n0 s0 k1 n1 s1 _ _ _ _ W (ref_add 0 k0 n0 s0 k1 n1 s1 h0 h1)) (fun W => rf17_Sub.calls 2 k0 n0 s0 k1 n1 s1 _ _ _ _ W (ref_sub 0 k0 n0 s0 k1 n1 s1 h0 h1))
    (fun W => rf17_Mul.calls 2 k0 n0 s0 k1 n1 s1 _ _ _ _ W (ref_mul 0 k0 n0 s0 k1 n1 s1 h0 h1)) (fun W => rf17_Neg.calls 1 k0 n0 s0 _ _ _ _ W (ref_neg 0 k0 n0 s0 h0))
end Go.Proofs.YtbodlnoipkommaaDoor.Pn
namespace Go.Proofs.YtbodlnoipkommaaDoor.Ry
open Go.RowKit
theorem i64_of {n : Int} (h : (Lit.int .i64 n).wf = true) : Wp.I64 n := by
  have h' : decide (IntKind.i64.min ≤ n) = true ∧ decide (n ≤ IntKind.i64.max) = true := by simpa [Lit.wf] using h
  have a := of_decide_eq_true h'.1
  have b := of_decide_eq_true h'.2
  have e1 : IntKind.i64.min = -9223372036854775808 := rfl
  have e2 : IntKind.i64.max = 9223372036854775807 := rfl
  rw [e1] at a
  rw [e2] at b
  exact ⟨a, by omega⟩
end Go.Proofs.YtbodlnoipkommaaDoor.Ry
namespace Go.Proofs.YtbodlnoipkommaaDoor.valueReckons
open Go.ChangeShapes Go.WideShapes Go.ChangeAt Go.RowKit Go.Proofs.YtbodlnoipkommaaDoor.Ry
open Go.ChangeMaps (open_string shut_string)
set_option linter.unusedVariables false
set_option maxRecDepth 100000 in
theorem lifted (os : Os) (started : os.Started) (H : Type) (enc : TypeId × Value → H) :
    ReturnsInHanded {} Tryd.checked os 6 .any (fun w args => (Rows.valueReckonsSpec.pre enc Tryd.prog Tryd.f6 Rows.valueReckonsRow.domain false w args ∧ laidMetH Tryd.prog laidL w) ∧ sizedMet enc Tryd.prog Tryd.f6 (OpenSpec.ofChange Rows.valueReckonsSpec) false w args)
      (Rows.valueReckonsSpec.post enc Tryd.prog Tryd.f6 false true false false) := by
  refine wrap (C := Tryd.checked) own started (by kernel_rfl) Tryd.func6
    (ChangeSpec.witness_shaped (enc := enc) (C := Tryd.checked) (os := os) (X := fun w _ => laidMetH Tryd.prog laidL w) false (World.laidAll Tryd.prog os laidL) #[.agg #[.int .u8 0, .int .i64 0, .string ByteArray.empty], .agg #[.int .u8 0, .int .i64 0, .string ByteArray.empty]] 8 (World.laidAll_os _ _ _)
      (World.shaped_of_ZipB (by kernel_rfl) (by kernel_rfl)) (by kernel_rfl) (by kernel_rfl) (by kernel_rfl)
      (by rw [MakeChecks.laidMetH_plain _ _ _ (by kernel_rfl)]; exact laidMet_laidAll _ (by kernel_rfl) (by kernel_rfl))) ?_
  intro W base args ds gs before hval0 hW hsz0 hL hsh
  have hsz : (DataW.weightsEach Tryd.prog (Tryd.f6.params.toList ++ Rows.valueReckonsSpec.plain.varTypes Tryd.prog) (ds ++ gs)).all (· ≤ reachBytes) = true := hsz0
  have hval : ∀ (j : Nat) t v, Tryd.f6.params[j]? = some t → args[j]? = some v → Value.okWide Tryd.prog W .any base t v := hval0
  have hW' := hW
  obtain ⟨p, q, hA0, hV, rfl, hfz, hnd⟩ := hW
  have hA : DataW.TrodAll enc Tryd.prog W 0 (fun _ => true) true Tryd.f6.params.toList args.toList ds p := hA0
  rw [Tryd.params6] at hA hval hsz
  obtain ⟨v0, vs0, d0, ds0, p0, q0, hargs, rfl, rfl, h0, r0⟩ := trodAll_cons hA
  obtain ⟨v1, vs1, d1, ds1, p1, q1, rfl, rfl, rfl, h1, r1⟩ := trodAll_cons r0
  obtain ⟨rfl, rfl, rfl⟩ := trodAll_nil r1
  obtain rfl : args = #[v0, v1] := by cases args; simp_all
  obtain ⟨rfl, rfl⟩ := trodVars_none hV
  obtain ⟨k0, n0, s0, rfl, rfl, rfl, wk0, wn0, ws0⟩ := open_val (hval 0 25 v0 rfl rfl) h0
  obtain ⟨k1, n1, s1, rfl, rfl, rfl, wk1, wn1, ws1⟩ := open_val (hval 1 25 v1 rfl rfl) h1
  clear hA0 hval0 hsz0 hsz
  refine (Pn.reckons_calls k0 n0 s0 k1 n1 s1 W (vok hL hsh) (i64_of wn0) (i64_of wn1)).mono fun e W' ⟨he, bel⟩ => ?_
  subst he
  exact ⟨_, rfl, _, _, _, [], _, [], hW', trodAll_mk1 (shut_bool Tryd.underlying4 _), (trodAll_cons_mk (shut_val wk0 wn0 ws0) (trodAll_cons_mk (shut_val wk1 wn1 ws1) trodAll_mk0)), rfl, bel.frame _, fun h => by cases h⟩
theorem over : Rows.valueReckonsRow.holds Tryd.pinned (OpenSpec.ofChange Rows.valueReckonsSpec) :=
  OpenClaim.holds_of_wide 6 Tryd.f6 rfl rfl rfl rfl rfl rfl rfl ⟨rfl, rfl, rfl, rfl, rfl⟩ rfl rfl rfl rfl rfl (by kernel_rfl) Tryd.func6 (by kernel_rfl)
    (of_decide_eq_true (by kernel_rfl)) (by unfold Func.isWrapper; first | (rw [if_pos (by decide +kernel)]; kernel_rfl) | (rw [if_neg (by decide +kernel)]; exact ⟨rfl, rfl⟩))
    (fun os started H enc _ => lifted os started H enc)
theorem proved : Rows.ValueReckonsSaid := over
end Go.Proofs.YtbodlnoipkommaaDoor.valueReckons
namespace Go.Proofs.YtbodlnoipkommaaDoor
open Go
set_option maxRecDepth 100000 in
theorem valueReckonsCard_holds : Rows.ValueReckonsCardSaid :=
  Claim7.holds_tied_plain_at .later [] [.data, .data, .data, .data, .data, .pinned] true (true, "acebfd297a6da68244793249f8eee2e59a50f107c55ed398f41256a6c8c49e27") false
    valueReckons.proved (fun _ h => by cases h) (by kernel_rfl) (fun _ h => by cases h) valueReckons_row_tie rfl ⟨rfl, rfl⟩ (by kernel_rfl) rfl
    (fun f fn hf hfn => by
      obtain rfl : f = 6 := Option.some.inj ((show Tryd.prog.funcNamed "chancery/chancerylaw17.ValueReckons" = some 6 by kernel_rfl).symm.trans hf) |>.symm
      obtain rfl : fn = Tryd.f6 := (Option.some.inj (Tryd.func6.symm.trans hfn)).symm
      exact ⟨by kernel_rfl, fun j t ht => by
        rw [Tryd.params6] at ht
        have hm : t ∈ [25, 25] := by simpa using Array.mem_of_getElem? ht
        have hu : t = 25 := by simpa using hm
        rcases hu with rfl
        · exact (show Tryd.prog.wantsStandIn 25 = false by kernel_rfl)⟩)
    (by kernel_rfl)
#print axioms valueReckonsCard_holds
end Go.Proofs.YtbodlnoipkommaaDoor

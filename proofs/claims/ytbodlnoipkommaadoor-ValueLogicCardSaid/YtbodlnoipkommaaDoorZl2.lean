/- Merged out of this session's texts: Pd, CardValueLogic -/
import Derived.Test.YtbodlnoipkommaaDoorZB11
import Derived.Test.YtbodlnoipkommaaDoorZB8
import Derived.Test.YtbodlnoipkommaaDoorZl1
/- ValueLogic in plain Lean. -/
namespace Go.Proofs.YtbodlnoipkommaaDoor.Pd
open Go.RowKit Go.Proofs.YtbodlnoipkommaaDoor.Q Go.Proofs.YtbodlnoipkommaaDoor.Wg Go.Proofs.YtbodlnoipkommaaDoor.Wh Go.Proofs.YtbodlnoipkommaaDoor.Pa Go.Proofs.YtbodlnoipkommaaDoor.Pb Go.Proofs.YtbodlnoipkommaaDoor.Pc Go.Proofs.YtbodlnoipkommaaDoor.Pe Go.Proofs.YtbodlnoipkommaaDoor.Xa Go.Proofs.YtbodlnoipkommaaDoorW.PrintWords Go.Proofs.YtbodlnoipkommaaDoorW.PrintLast Go.Proofs.YtbodlnoipkommaaDoorW.PrintMore
theorem rk_tr (r : Int) (h : r = 0 ∨ r = 1 ∨ r = 2) : rk (tr r) = r := by rcases h with rfl | rfl | rfl <;> rfl
theorem tr_rk_of (a : Int) : value_Of.f a = some (if rk a = 2 then (1, 1, ⟨#[]⟩) else if rk a = 0 then (1, 0, ⟨#[]⟩) else (0, 0, ⟨#[]⟩)) := by
  unfold value_Of.f rk
  by_cases h1 : a = 1
  · subst h1; rfl
  by_cases h0 : a = 0
  · subst h0; rfl
  simp [h0, h1]
theorem truth_f (j : Nat) (k n : Int) (s : ByteArray) : value_Truth.f (j + 1) k n s = some (if rightB k n s = false ∨ k > 1 then (0, 270) else if k = 0 then (2, 0) else (n % 256, 0)) := by
  unfold value_Truth.f
  rw [right_f]
  simp only [Option.bind_some]
  cases hr : rightB k n s
  · simp only [Bool.false_eq_true, if_false, true_or, if_true]; rfl
  · simp only [if_true, Bool.true_eq_false, false_or]
    rw [value_Truth.j0]
    simp only [decide_eq_true_eq]
    split
    · rfl
    · split <;> rfl
theorem logic_true : chancerylaw17_ValueLogic.Pure := by
  intro a0 a1 a2 _ _ _
  refine ⟨8, ?_⟩
  have e1 : rightB 1 1 ⟨#[]⟩ = true := by unfold rightB; rw [toList_empty]; rfl
  have e2 : rightB 1 0 ⟨#[]⟩ = true := by unfold rightB; rw [toList_empty]; rfl
  have e3 : rightB 0 0 ⟨#[]⟩ = true := by unfold rightB; rw [toList_empty]; rfl
  have q0 := rk_cases a0
  have q1 := rk_cases a1
  have q2 := rk_cases a2
  unfold chancerylaw17_ValueLogic.f
  simp only [value_Not.f, value_And.f, value_Or.f, Option.bind_some, chancerylaw17_ValueLogic.j0, chancerylaw17_ValueLogic.j1, chancerylaw17_ValueLogic.j2, tr_rk_of, truth_f 4, chancerylaw17_awake.f]
  generalize rk a0 = x at *
  generalize rk a1 = y at *
  generalize rk a2 = z at *
  rcases q0 with rfl | rfl | rfl <;> rcases q1 with rfl | rfl | rfl <;> rcases q2 with rfl | rfl | rfl <;> (simp [tr, rk, e1, e2, e3]; try decide)
end Go.Proofs.YtbodlnoipkommaaDoor.Pd
/- ValueLogic: the row and its tied card. -/
namespace Go.Proofs.YtbodlnoipkommaaDoor.valueLogic
open Go.ChangeShapes Go.WideShapes Go.ChangeAt Go.RowKit Go.Proofs.YtbodlnoipkommaaDoor.Ry
open Go.ChangeMaps (open_string shut_string)
set_option linter.unusedVariables false
set_option maxRecDepth 100000 in
theorem lifted (os : Os) (started : os.Started) (H : Type) (enc : TypeId × Value → H) :
    ReturnsInHanded {} Tryd.checked os 7 .any (fun w args => (Rows.valueLogicSpec.pre enc Tryd.prog Tryd.f7 Rows.valueLogicRow.domain false w args ∧ laidMetH Tryd.prog laidL w) ∧ sizedMet enc Tryd.prog Tryd.f7 (OpenSpec.ofChange Rows.valueLogicSpec) false w args)
      (Rows.valueLogicSpec.post enc Tryd.prog Tryd.f7 false true false false) := by
  refine wrap (C := Tryd.checked) own started (by kernel_rfl) Tryd.func7
    (ChangeSpec.witness_shaped (enc := enc) (C := Tryd.checked) (os := os) (X := fun w _ => laidMetH Tryd.prog laidL w) false (World.laidAll Tryd.prog os laidL) #[.int .u8 0, .int .u8 0, .int .u8 0] 8 (World.laidAll_os _ _ _)
      (World.shaped_of_ZipB (by kernel_rfl) (by kernel_rfl)) (by kernel_rfl) (by kernel_rfl) (by kernel_rfl)
      (by rw [MakeChecks.laidMetH_plain _ _ _ (by kernel_rfl)]; exact laidMet_laidAll _ (by kernel_rfl) (by kernel_rfl))) ?_
  intro W base args ds gs before hval0 hW hsz0 hL hsh
  have hsz : (DataW.weightsEach Tryd.prog (Tryd.f7.params.toList ++ Rows.valueLogicSpec.plain.varTypes Tryd.prog) (ds ++ gs)).all (· ≤ reachBytes) = true := hsz0
  have hval : ∀ (j : Nat) t v, Tryd.f7.params[j]? = some t → args[j]? = some v → Value.okWide Tryd.prog W .any base t v := hval0
  have hW' := hW
  obtain ⟨p, q, hA0, hV, rfl, hfz, hnd⟩ := hW
  have hA : DataW.TrodAll enc Tryd.prog W 0 (fun _ => true) true Tryd.f7.params.toList args.toList ds p := hA0
  rw [Tryd.params7] at hA hval hsz
  obtain ⟨v0, vs0, d0, ds0, p0, q0, hargs, rfl, rfl, h0, r0⟩ := trodAll_cons hA
  obtain ⟨v1, vs1, d1, ds1, p1, q1, rfl, rfl, rfl, h1, r1⟩ := trodAll_cons r0
  obtain ⟨v2, vs2, d2, ds2, p2, q2, rfl, rfl, rfl, h2, r2⟩ := trodAll_cons r1
  obtain ⟨rfl, rfl, rfl⟩ := trodAll_nil r2
  obtain rfl : args = #[v0, v1, v2] := by cases args; simp_all
  obtain ⟨rfl, rfl⟩ := trodVars_none hV
  obtain ⟨a0, rfl, rfl, rfl, w0⟩ := open_int Tryd.underlying26 (hval 0 26 v0 rfl rfl) h0
  obtain ⟨a1, rfl, rfl, rfl, w1⟩ := open_int Tryd.underlying26 (hval 1 26 v1 rfl rfl) h1
  obtain ⟨a2, rfl, rfl, rfl, w2⟩ := open_int Tryd.underlying26 (hval 2 26 v2 rfl rfl) h2
  clear hA0 hval0 hsz0 hsz
  refine (Q.chancerylaw17_ValueLogic.walk Pd.logic_true a0 a1 a2 W w0 w1 w2 (vok hL hsh)).mono fun e W' ⟨he, bel⟩ => ?_
  subst he
  exact ⟨_, rfl, _, _, _, [], _, [], hW', trodAll_mk1 (shut_bool Tryd.underlying4 _), (trodAll_cons_mk (shut_int Tryd.underlying26 w0) (trodAll_cons_mk (shut_int Tryd.underlying26 w1) (trodAll_cons_mk (shut_int Tryd.underlying26 w2) trodAll_mk0))), rfl, bel.frame _, fun h => by cases h⟩
theorem over : Rows.valueLogicRow.holds Tryd.pinned (OpenSpec.ofChange Rows.valueLogicSpec) :=
  OpenClaim.holds_of_wide 7 Tryd.f7 rfl rfl rfl rfl rfl rfl rfl ⟨rfl, rfl, rfl, rfl, rfl⟩ rfl rfl rfl rfl rfl (by kernel_rfl) Tryd.func7 (by kernel_rfl)
    (of_decide_eq_true (by kernel_rfl)) (by unfold Func.isWrapper; first | (rw [if_pos (by decide +kernel)]; kernel_rfl) | (rw [if_neg (by decide +kernel)]; exact ⟨rfl, rfl⟩))
    (fun os started H enc _ => lifted os started H enc)
theorem proved : Rows.ValueLogicSaid := over
end Go.Proofs.YtbodlnoipkommaaDoor.valueLogic
namespace Go.Proofs.YtbodlnoipkommaaDoor
open Go
set_option maxRecDepth 100000 in
/-- The tied card. -/
theorem valueLogicCard_holds : Rows.ValueLogicCardSaid :=
  Claim7.holds_tied_plain_at .later [] [.data, .data, .data, .data, .data, .pinned] true (true, "acebfd297a6da68244793249f8eee2e59a50f107c55ed398f41256a6c8c49e27") false
    valueLogic.proved (fun _ h => by cases h) (by kernel_rfl) (fun _ h => by cases h) valueLogic_row_tie rfl ⟨rfl, rfl⟩ (by kernel_rfl) rfl
    (fun f fn hf hfn => by
      obtain rfl : f = 7 := Option.some.inj ((show Tryd.prog.funcNamed "chancery/chancerylaw17.ValueLogic" = some 7 by kernel_rfl).symm.trans hf) |>.symm
      obtain rfl : fn = Tryd.f7 := (Option.some.inj (Tryd.func7.symm.trans hfn)).symm
      exact ⟨by kernel_rfl, fun j t ht => by
        rw [Tryd.params7] at ht
        have hm : t ∈ [26, 26, 26] := by simpa using Array.mem_of_getElem? ht
        have hu : t = 26 := by simpa using hm
        rcases hu with rfl
        · exact (show Tryd.prog.wantsStandIn 26 = false by kernel_rfl)⟩)
    (by kernel_rfl)
#print axioms valueLogicCard_holds
end Go.Proofs.YtbodlnoipkommaaDoor

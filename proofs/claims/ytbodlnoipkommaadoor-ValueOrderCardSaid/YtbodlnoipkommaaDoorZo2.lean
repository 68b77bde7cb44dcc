/- Merged out of this session's texts: Pg, CardValueOrder -/
import Derived.Test.YtbodlnoipkommaaDoorZB11
import Derived.Test.YtbodlnoipkommaaDoorZo1
/- ValueOrder in plain Lean. -/
namespace Go.Proofs.YtbodlnoipkommaaDoor.Pg
open Go.RowKit Go.Proofs.YtbodlnoipkommaaDoor.Q Go.Proofs.YtbodlnoipkommaaDoor.Wg Go.Proofs.YtbodlnoipkommaaDoor.Wh Go.Proofs.YtbodlnoipkommaaDoor.Wo Go.Proofs.YtbodlnoipkommaaDoor.Wp Go.Proofs.YtbodlnoipkommaaDoor.Pa Go.Proofs.YtbodlnoipkommaaDoor.Pb Go.Proofs.YtbodlnoipkommaaDoor.Pc Go.Proofs.YtbodlnoipkommaaDoor.Pe Go.Proofs.YtbodlnoipkommaaDoor.Xa Go.Proofs.YtbodlnoipkommaaDoor.Xd Go.Proofs.YtbodlnoipkommaaDoorW.PrintWords Go.Proofs.YtbodlnoipkommaaDoorW.PrintLast Go.Proofs.YtbodlnoipkommaaDoorW.PrintMore
theorem cmp_f (op k0 n0 : Int) (s0 : ByteArray) (k1 n1 : Int) (s1 : ByteArray) (h0 : I64 n0) (h1 : I64 n1) : value_Compare.f op k0 n0 s0 k1 n1 s1 = some (compareR op k0 n0 s0 k1 n1 s1) := by
  unfold value_Compare.f; rw [if_pos ⟨h0, h1⟩]
/-- The three answers of Compare are of one kind. -/
theorem cmp_three (k0 n0 : Int) (s0 : ByteArray) (k1 n1 : Int) (s1 : ByteArray) :
    (∃ e, e ≠ 0 ∧ ∀ op, 7 ≤ op → op ≤ 12 → compareR op k0 n0 s0 k1 n1 s1 = (0, e)) ∨ (∀ op, 7 ≤ op → op ≤ 12 → compareR op k0 n0 s0 k1 n1 s1 = (2, 0)) ∨ ∃ c, ∀ op, 7 ≤ op → op ≤ 12 → compareR op k0 n0 s0 k1 n1 s1 = (boolT (cmpop op c), 0) := by
  cases hr0 : rightB k0 n0 s0
  · exact Or.inl ⟨2, by decide, fun op _ _ => by unfold compareR; rw [if_pos (Or.inr (Or.inr (Or.inl hr0)))]⟩
  cases hr1 : rightB k1 n1 s1
  · exact Or.inl ⟨2, by decide, fun op _ _ => by unfold compareR; rw [if_pos (Or.inr (Or.inr (Or.inr hr1)))]⟩
  have base : ∀ op : Int, 7 ≤ op → op ≤ 12 → ¬ (op < 7 ∨ op > 12 ∨ rightB k0 n0 s0 = false ∨ rightB k1 n1 s1 = false) := by
    intro op a b c
    rcases c with c | c | c | c
    · omega
    · omega
    · rw [hr0] at c; cases c
    · rw [hr1] at c; cases c
  by_cases hz : k0 = 0 ∨ k1 = 0
  · exact Or.inr (Or.inl fun op a b => by unfold compareR; rw [if_neg (base op a b), if_pos hz])
  by_cases hk : k0 = k1
  · exact Or.inr (Or.inr ⟨_, fun op a b => by unfold compareR; rw [if_neg (base op a b), if_neg hz, if_pos hk]⟩)
  by_cases hn : numB k0 = true ∧ numB k1 = true
  · exact Or.inr (Or.inr ⟨_, fun op a b => by unfold compareR; rw [if_neg (base op a b), if_neg hz, if_neg hk, if_pos hn]⟩)
  · exact Or.inl ⟨270, by decide, fun op a b => by unfold compareR; rw [if_neg (base op a b), if_neg hz, if_neg hk, if_neg hn]⟩
theorem not_of (b : Bool) : tr (2 - rk (boolT b)) = boolT (!b) := by cases b <;> rfl
/-- Where a difference is told, Compare is its sign. -/
theorem sub_sign (k0 n0 : Int) (s0 : ByteArray) (k1 n1 : Int) (s1 : ByteArray) (he : (subR k0 n0 s0 k1 n1 s1).2.2.2 = 0) (hk : (subR k0 n0 s0 k1 n1 s1).1 ≠ 0) :
    ∃ c, (∀ op, 7 ≤ op → op ≤ 12 → compareR op k0 n0 s0 k1 n1 s1 = (boolT (cmpop op c), 0)) ∧ (c < 0 ↔ (subR k0 n0 s0 k1 n1 s1).2.1 < 0) ∧ (c = 0 ↔ (subR k0 n0 s0 k1 n1 s1).2.1 = 0) := by
  unfold subR at *
  by_cases ha : (askedR k0 n0 s0 k1 n1 s1).2 ≠ 0 ∨ (askedR k0 n0 s0 k1 n1 s1).1 = true
  · rw [if_pos ha] at hk; exact absurd rfl hk
  rw [if_neg ha] at he hk ⊢
  have ha1 : (askedR k0 n0 s0 k1 n1 s1).2 = 0 := by
    apply Classical.byContradiction; intro c; exact ha (Or.inl c)
  have ha2 : (askedR k0 n0 s0 k1 n1 s1).1 = false := by
    cases h : (askedR k0 n0 s0 k1 n1 s1).1
    · rfl
    · exact absurd (Or.inr h) ha
  unfold askedR at ha1 ha2
  cases hr0 : rightB k0 n0 s0
  · rw [hr0] at ha1; simp at ha1
  cases hr1 : rightB k1 n1 s1
  · rw [hr0, hr1] at ha1; simp at ha1
  rw [hr0, hr1] at ha1 ha2
  simp only [Bool.not_true, Bool.or_false, Bool.false_eq_true, if_false] at ha1 ha2
  have hb : badB k0 = false ∧ badB k1 = false := by
    cases h0 : badB k0 <;> cases h1 : badB k1 <;> rw [h0, h1] at ha1 <;> simp at ha1 ⊢
  rw [hb.1, hb.2] at ha2
  simp at ha2
  have q0 : numB k0 = true := by
    have := hb.1; unfold badB at this
    simp [ha2.1] at this; exact this
  have q1 : numB k1 = true := by
    have := hb.2; unfold badB at this
    simp [ha2.2] at this; exact this
  have base : ∀ op : Int, 7 ≤ op → op ≤ 12 → ¬ (op < 7 ∨ op > 12 ∨ rightB k0 n0 s0 = false ∨ rightB k1 n1 s1 = false) := by
    intro op a b c
    rcases c with c | c | c | c
    · omega
    · omega
    · rw [hr0] at c; cases c
    · rw [hr1] at c; cases c
  have hz : ¬ (k0 = 0 ∨ k1 = 0) := by rintro (c | c); exact ha2.1 c; exact ha2.2 c
  have k0v : k0 = 2 ∨ k0 = 3 := by unfold numB at q0; simpa using q0
  have k1v : k1 = 2 ∨ k1 = 3 := by unfold numB at q1; simpa using q1
  have told : ∀ k x, (toldR k x).2.2.2 = 0 → (toldR k x).2.1 = x := by
    intro k x h
    unfold toldR at h ⊢
    split at h
    · rename_i hx; rw [if_pos hx]
    · cases h
  by_cases hk2 : k0 = k1
  · subst hk2
    refine ⟨_, fun op a b => by unfold compareR; rw [if_neg (base op a b), if_neg hz, if_pos rfl], ?_⟩
    have hs : s0 = s1 := by
      have e0 : s0.toList = [] := by rcases k0v with rfl | rfl <;> (unfold rightB at hr0; simpa using hr0)
      have e1 : s1.toList = [] := by rcases k0v with rfl | rfl <;> (unfold rightB at hr1; simpa using hr1)
      rw [ByteArray.toList_eq] at e0 e1
      cases s0; cases s1
      congr
      exact Array.toList_inj.1 (e0.trans e1.symm)
    have hc : orderR k0 n0 s0 k0 n1 s1 = cmpI n0 n1 := by
      unfold orderR
      rw [if_pos (cmpI_zero.2 rfl), hs, cmpS_zero.2 rfl]
      by_cases h : cmpI n0 n1 = 0
      · rw [if_pos h, h]
      · rw [if_neg h]
    rw [hc, cmpI_lt, cmpI_zero]
    rcases k0v with rfl | rfl
    · rw [if_pos ⟨rfl, rfl⟩] at he ⊢
      rw [told _ _ he]; omega
    · rw [if_neg (by decide)] at he ⊢
      rw [told _ _ he]
      unfold fixV
      rw [if_neg (by decide)]; omega
  · refine ⟨_, fun op a b => by unfold compareR; rw [if_neg (base op a b), if_neg hz, if_neg hk2, if_pos ⟨q0, q1⟩], ?_⟩
    rw [if_neg (by rintro ⟨a, b⟩; exact hk2 (a.trans b.symm))] at he ⊢
    rw [told _ _ he]
    unfold sgn
    by_cases h1 : fixV k0 n0 - fixV k1 n1 < 0
    · rw [if_pos h1]; omega
    · rw [if_neg h1]
      by_cases h2 : fixV k0 n0 - fixV k1 n1 = 0
      · rw [if_pos h2]; omega
      · rw [if_neg h2]; omega
theorem j0_true (j : Nat) (k0 n0 : Int) (s0 : ByteArray) (k1 n1 : Int) (s1 : ByteArray) (h0 : I64 n0) (h1 : I64 n1) :
    chancerylaw17_ValueOrder.j0 (j + 3) false k0 n0 s0 k1 n1 s1 = some true := by
  rw [chancerylaw17_ValueOrder.j0]
  simp only [Bool.false_eq_true, if_false]
  rw [sub_f k0 n0 s0 k1 n1 s1 h0 h1]
  simp only [Option.bind_some, cmp_f _ k0 n0 s0 k1 n1 s1 h0 h1]
  have j2 : ∀ (a b c : Int) (d : Int × Int × ByteArray), chancerylaw17_ValueOrder.j2 (j + 1) a b c true d.1 d.2.1 d.2.2 = some true := fun a b c d => by
    rw [chancerylaw17_ValueOrder.j2]; rfl
  by_cases hs : (subR k0 n0 s0 k1 n1 s1).2.2.2 = 0 ∧ (subR k0 n0 s0 k1 n1 s1).1 ≠ 0
  · obtain ⟨c, hc, hl, hz⟩ := sub_sign k0 n0 s0 k1 n1 s1 hs.1 hs.2
    rw [hc 9 (by decide) (by decide), hc 7 (by decide) (by decide), hc 8 (by decide) (by decide)]
    simp only [if_true, value_Not.f, Option.bind_some, not_of]
    have e8 : cmpop 8 c = !(cmpop 7 c) := by unfold cmpop; simp [bne]
    rw [e8]
    rw [chancerylaw17_ValueOrder.j1]
    simp only [bne_self_eq_false, Bool.false_eq_true, if_false, hs.1, if_true]
    rw [show ((subR k0 n0 s0 k1 n1 s1).1 == 0) = false from beq_false_of_ne hs.2, chancerylaw17_ValueOrder.j2]
    simp only [Bool.false_eq_true, if_false, if_true]
    have e9 : (boolT (cmpop 9 c) == 1) = decide ((subR k0 n0 s0 k1 n1 s1).2.1 < 0) := by
      have : cmpop 9 c = decide (c < 0) := by unfold cmpop; simp
      rw [this]
      by_cases h : c < 0
      · rw [decide_eq_true h, decide_eq_true (hl.1 h)]; rfl
      · rw [decide_eq_false h, decide_eq_false (fun q => h (hl.2 q))]; rfl
    have e7 : (boolT (cmpop 7 c) == 1) = ((subR k0 n0 s0 k1 n1 s1).2.1 == 0) := by
      have : cmpop 7 c = (c == 0) := by unfold cmpop; simp
      rw [this]
      by_cases h : c = 0
      · rw [h, hz.1 h]; rfl
      · rw [beq_false_of_ne h, beq_false_of_ne (fun q => h (hz.2 q))]; rfl
    rw [e9, e7]
    simp only [BEq.rfl, if_true]
    rfl
  · have j1 : ∀ a b c, chancerylaw17_ValueOrder.j1 (j + 2) (subR k0 n0 s0 k1 n1 s1).2.2.2 a b c false (subR k0 n0 s0 k1 n1 s1).1 (subR k0 n0 s0 k1 n1 s1).2.1 (subR k0 n0 s0 k1 n1 s1).2.2.1 = some true := by
      intro a b c
      rw [chancerylaw17_ValueOrder.j1]
      simp only [Bool.false_eq_true, if_false]
      by_cases he : (subR k0 n0 s0 k1 n1 s1).2.2.2 = 0
      · rw [if_pos he]
        have hk : (subR k0 n0 s0 k1 n1 s1).1 = 0 := Classical.byContradiction fun q => hs ⟨he, q⟩
        rw [hk]
        exact j2 a b c (0, _, _)
      · rw [if_neg he]
        exact j2 a b c (_, _, _)
    rcases cmp_three k0 n0 s0 k1 n1 s1 with ⟨e, hne, h⟩ | h | ⟨c, h⟩
    · rw [h 9 (by decide) (by decide), h 7 (by decide) (by decide), h 8 (by decide) (by decide)]
      simp only [if_true, hne, if_false]
      exact j1 _ _ _
    · rw [h 9 (by decide) (by decide), h 7 (by decide) (by decide), h 8 (by decide) (by decide)]
      simp only [if_true, value_Not.f, Option.bind_some]
      exact j1 _ _ _
    · rw [h 9 (by decide) (by decide), h 7 (by decide) (by decide), h 8 (by decide) (by decide)]
      have e8 : cmpop 8 c = !(cmpop 7 c) := by unfold cmpop; simp [bne]
      simp only [if_true, value_Not.f, Option.bind_some, not_of, e8, bne_self_eq_false]
      exact j1 _ _ _
theorem order_true (k0 n0 : Int) (s0 : ByteArray) (k1 n1 : Int) (s1 : ByteArray) (k2 n2 : Int) (s2 : ByteArray) (h0 : I64 n0) (h1 : I64 n1) :
    chancerylaw17_ValueOrder.f 3 k0 n0 s0 k1 n1 s1 k2 n2 s2 = some true := by
  have hj := j0_true 0 k0 n0 s0 k1 n1 s1 h0 h1
  have tr := order_trans k0 n0 s0 k1 n1 s1 k2 n2 s2
  have rg := order_range k0 n0 s0 k1 n1 s1
  have ng := order_neg k0 n0 s0 k1 n1 s1
  have zr : orderR k0 n0 s0 k1 n1 s1 = 0 → (!(k0 == k1) || (!(n0 == n1) || (!(s0.toList == s1.toList)))) = false := by
    intro h
    obtain ⟨rfl, rfl, rfl⟩ := order_zero.1 h
    simp
  unfold chancerylaw17_ValueOrder.f
  simp only [order_f, Option.bind_some]
  rw [ng]
  generalize orderR k0 n0 s0 k1 n1 s1 = a at *
  generalize orderR k1 n1 s1 k2 n2 s2 = b at *
  generalize orderR k0 n0 s0 k2 n2 s2 = c at *
  have hw : -a = wrap64 (-a) := by unfold wrap64; omega
  rw [if_pos hw]
  by_cases ha : a ≤ 0
  · rw [if_pos ha]
    by_cases hb : b ≤ 0
    · have tt := tr ha hb
      rw [if_pos hb, if_neg (show ¬ c > 0 by omega)]
      by_cases hz : a = 0
      · rw [if_pos hz, zr hz]
        simp only [Bool.false_eq_true, if_false, show ¬ a < 0 by omega]
        exact hj
      · rw [if_neg hz, if_pos (show a < 0 by omega), decide_eq_false (show ¬ c ≥ 0 by have := tt.2 (Or.inl (by omega)); omega)]
        exact hj
    · rw [if_neg hb]
      by_cases hz : a = 0
      · rw [if_pos hz, zr hz]
        simp only [Bool.false_eq_true, if_false, ite_self]
        exact hj
      · rw [if_neg hz]
        simp only [ite_self]
        exact hj
  · rw [if_neg ha, if_neg (show ¬ a = 0 by omega), if_neg (show ¬ a < 0 by omega)]
    exact hj
end Go.Proofs.YtbodlnoipkommaaDoor.Pg
/- ValueOrder: the row and its tied card. -/
namespace Go.Proofs.YtbodlnoipkommaaDoor.valueOrder
open Go.ChangeShapes Go.WideShapes Go.ChangeAt Go.RowKit Go.Proofs.YtbodlnoipkommaaDoor.Ry
open Go.ChangeMaps (open_string shut_string)
set_option linter.unusedVariables false
set_option maxRecDepth 100000 in
theorem lifted (os : Os) (started : os.Started) (H : Type) (enc : TypeId × Value → H) :
    ReturnsInHanded {} Tryd.checked os 5 .any (fun w args => (Rows.valueOrderSpec.pre enc Tryd.prog Tryd.f5 Rows.valueOrderRow.domain false w args ∧ laidMetH Tryd.prog laidL w) ∧ sizedMet enc Tryd.prog Tryd.f5 (OpenSpec.ofChange Rows.valueOrderSpec) false w args)
      (Rows.valueOrderSpec.post enc Tryd.prog Tryd.f5 false true false false) := by
  refine wrap (C := Tryd.checked) own started (by kernel_rfl) Tryd.func5
    (ChangeSpec.witness_shaped (enc := enc) (C := Tryd.checked) (os := os) (X := fun w _ => laidMetH Tryd.prog laidL w) false (World.laidAll Tryd.prog os laidL) #[.agg #[.int .u8 0, .int .i64 0, .string ByteArray.empty], .agg #[.int .u8 0, .int .i64 0, .string ByteArray.empty], .agg #[.int .u8 0, .int .i64 0, .string ByteArray.empty]] 8 (World.laidAll_os _ _ _)
      (World.shaped_of_ZipB (by kernel_rfl) (by kernel_rfl)) (by kernel_rfl) (by kernel_rfl) (by kernel_rfl)
      (by rw [MakeChecks.laidMetH_plain _ _ _ (by kernel_rfl)]; exact laidMet_laidAll _ (by kernel_rfl) (by kernel_rfl))) ?_
  intro W base args ds gs before hval0 hW hsz0 hL hsh
  have hsz : (DataW.weightsEach Tryd.prog (Tryd.f5.params.toList ++ Rows.valueOrderSpec.plain.varTypes Tryd.prog) (ds ++ gs)).all (· ≤ reachBytes) = true := hsz0
  have hval : ∀ (j : Nat) t v, Tryd.f5.params[j]? = some t → args[j]? = some v → Value.okWide Tryd.prog W .any base t v := hval0
  have hW' := hW
  obtain ⟨p, q, hA0, hV, rfl, hfz, hnd⟩ := hW
  have hA : DataW.TrodAll enc Tryd.prog W 0 (fun _ => true) true Tryd.f5.params.toList args.toList ds p := hA0
  rw [Tryd.params5] at hA hval hsz
  obtain ⟨v0, vs0, d0, ds0, p0, q0, hargs, rfl, rfl, h0, r0⟩ := trodAll_cons hA
  obtain ⟨v1, vs1, d1, ds1, p1, q1, rfl, rfl, rfl, h1, r1⟩ := trodAll_cons r0
  obtain ⟨v2, vs2, d2, ds2, p2, q2, rfl, rfl, rfl, h2, r2⟩ := trodAll_cons r1
  obtain ⟨rfl, rfl, rfl⟩ := trodAll_nil r2
  obtain rfl : args = #[v0, v1, v2] := by cases args; simp_all
  obtain ⟨rfl, rfl⟩ := trodVars_none hV
  obtain ⟨k0, n0, s0, rfl, rfl, rfl, wk0, wn0, ws0⟩ := open_val (hval 0 25 v0 rfl rfl) h0
  obtain ⟨k1, n1, s1, rfl, rfl, rfl, wk1, wn1, ws1⟩ := open_val (hval 1 25 v1 rfl rfl) h1
  obtain ⟨k2, n2, s2, rfl, rfl, rfl, wk2, wn2, ws2⟩ := open_val (hval 2 25 v2 rfl rfl) h2
  clear hA0 hval0 hsz0 hsz
  refine (Q.chancerylaw17_ValueOrder.calls 3 k0 n0 s0 k1 n1 s1 k2 n2 s2 true W (Pg.order_true k0 n0 s0 k1 n1 s1 k2 n2 s2 (i64_of wn0) (i64_of wn1)) (vok hL hsh)).mono fun e W' ⟨he, bel⟩ => ?_
  subst he
  exact ⟨_, rfl, _, _, _, [], _, [], hW', trodAll_mk1 (shut_bool Tryd.underlying4 _), (trodAll_cons_mk (shut_val wk0 wn0 ws0) (trodAll_cons_mk (shut_val wk1 wn1 ws1) (trodAll_cons_mk (shut_val wk2 wn2 ws2) trodAll_mk0))), rfl, bel.frame _, fun h => by cases h⟩
theorem over : Rows.valueOrderRow.holds Tryd.pinned (OpenSpec.ofChange Rows.valueOrderSpec) :=
  OpenClaim.holds_of_wide 5 Tryd.f5 rfl rfl rfl rfl rfl rfl rfl ⟨rfl, rfl, rfl, rfl, rfl⟩ rfl rfl rfl rfl rfl (by kernel_rfl) Tryd.func5 (by kernel_rfl)
    (of_decide_eq_true (by kernel_rfl)) (by unfold Func.isWrapper; first | (rw [if_pos (by decide +kernel)]; kernel_rfl) | (rw [if_neg (by decide +kernel)]; exact ⟨rfl, rfl⟩))
    (fun os started H enc _ => lifted os started H enc)
theorem proved : Rows.ValueOrderSaid := over
end Go.Proofs.YtbodlnoipkommaaDoor.valueOrder
namespace Go.Proofs.YtbodlnoipkommaaDoor
open Go
set_option maxRecDepth 100000 in
/-- The tied card. -/
theorem valueOrderCard_holds : Rows.ValueOrderCardSaid :=
  Claim7.holds_tied_plain_at .later [] [.data, .data, .data, .data, .data, .pinned] true (true, "acebfd297a6da68244793249f8eee2e59a50f107c55ed398f41256a6c8c49e27") false
    valueOrder.proved (fun _ h => by cases h) (by kernel_rfl) (fun _ h => by cases h) valueOrder_row_tie rfl ⟨rfl, rfl⟩ (by kernel_rfl) rfl
    (fun f fn hf hfn => by
      obtain rfl : f = 5 := Option.some.inj ((show Tryd.prog.funcNamed "chancery/chancerylaw17.ValueOrder" = some 5 by kernel_rfl).symm.trans hf) |>.symm
      obtain rfl : fn = Tryd.f5 := (Option.some.inj (Tryd.func5.symm.trans hfn)).symm
      exact ⟨by kernel_rfl, fun j t ht => by
        rw [Tryd.params5] at ht
        have hm : t ∈ [25, 25, 25] := by simpa using Array.mem_of_getElem? ht
        have hu : t = 25 := by simpa using hm
        rcases hu with rfl
        · exact (show Tryd.prog.wantsStandIn 25 = false by kernel_rfl)⟩)
    (by kernel_rfl)
#print axioms valueOrderCard_holds
end Go.Proofs.YtbodlnoipkommaaDoor

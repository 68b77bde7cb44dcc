/- Merged out of this session's texts: Qxf5 -/
import Derived.Test.YtbodlnoipkommaaDoorZB6
import Derived.Test.YtbodlnoipkommaaDoorZB1
import Derived.Test.YtbodlnoipkommaaDoorZB7
import Derived.Test.YtbodlnoipkommaaDoorZB11
import Derived.Test.YtbodlnoipkommaaDoorZB9
-- By a program of this session (wip/printx.py) out of the translation. Not trusted: Lean checks it.
namespace Go.Proofs.YtbodlnoipkommaaDoor.Q
open Go.Proofs.YtbodlnoipkommaaDoor.Wf
open Go.Proofs.YtbodlnoipkommaaDoor.Wg Go.Proofs.YtbodlnoipkommaaDoor.Wo Go.Proofs.YtbodlnoipkommaaDoor.Xa Go.Proofs.YtbodlnoipkommaaDoor.Xd
open Go.RowKit Go.Proofs.YtbodlnoipkommaaDoorW.PrintWords Go.Proofs.YtbodlnoipkommaaDoorW.PrintLast Go.Proofs.YtbodlnoipkommaaDoorW.PrintMore
attribute [local go_sem] max2_int min2_int max_two min_two max_three min_three max_four min_four   -- for this text's walks alone
set_option linter.unusedVariables false
set_option linter.unusedSimpArgs false

attribute [local go_sem high] eqA25
/-! ### chancerylaw17_ValueOrder: function 5 -/
mutual
def chancerylaw17_ValueOrder.j0 : Nat → Bool → Int → Int → ByteArray → Int → Int → ByteArray → Option (Bool)
  | 0, _, _, _, _, _, _, _ => none
  | k + 1, x65, x239000, x239001, x239002, x240000, x240001, x240002 => if x65 = true then (some false) else ((value_Sub.f x239000 x239001 x239002 x240000 x240001 x240002).bind fun bt245 => ((value_Compare.f 9 x239000 x239001 x239002 x240000 x240001 x240002).bind fun bt250 => ((value_Compare.f 7 x239000 x239001 x239002 x240000 x240001 x240002).bind fun bt252 => ((value_Compare.f 8 x239000 x239001 x239002 x240000 x240001 x240002).bind fun bt254 => (if bt250.2 = bt252.2 then (if bt252.2 = bt254.2 then (if bt250.2 = 0 then ((value_Not.f bt252.1).bind fun t256 => (chancerylaw17_ValueOrder.j1 k bt245.2.2.2 bt250.1 bt250.2 bt252.1 (bt254.1 != t256) bt245.1 bt245.2.1 bt245.2.2.1)) else (chancerylaw17_ValueOrder.j1 k bt245.2.2.2 bt250.1 bt250.2 bt252.1 false bt245.1 bt245.2.1 bt245.2.2.1)) else (chancerylaw17_ValueOrder.j1 k bt245.2.2.2 bt250.1 bt250.2 bt252.1 true bt245.1 bt245.2.1 bt245.2.2.1)) else (chancerylaw17_ValueOrder.j1 k bt245.2.2.2 bt250.1 bt250.2 bt252.1 true bt245.1 bt245.2.1 bt245.2.2.1))))))
def chancerylaw17_ValueOrder.j1 : Nat → Int → Int → Int → Int → Bool → Int → Int → ByteArray → Option (Bool)
  | 0, _, _, _, _, _, _, _, _ => none
  | k + 1, x11, x12, x13, x14, x107, x250000, x250001, x250002 => if x107 = true then (some false) else (if x11 = 0 then (chancerylaw17_ValueOrder.j2 k x12 x13 x14 (x250000 == 0) x250000 x250001 x250002) else (chancerylaw17_ValueOrder.j2 k x12 x13 x14 true x250000 x250001 x250002))
def chancerylaw17_ValueOrder.j2 : Nat → Int → Int → Int → Bool → Int → Int → ByteArray → Option (Bool)
  | 0, _, _, _, _, _, _, _ => none
  | k + 1, x12, x13, x14, x114, x250000, x250001, x250002 => if x114 = true then ((chancerylaw17_awake.f).bind fun t257 => (some t257)) else (if x13 = 0 then (if ((x12 == 1) == (decide (x250001 < 0))) = true then (if ((x14 == 1) == (x250001 == 0)) = true then ((chancerylaw17_awake.f).bind fun t258 => (some t258)) else (some false)) else (some false)) else (some false))
end
def chancerylaw17_ValueOrder.f (k : Nat) (a0_0 : Int) (a0_1 : Int) (a0_2 : ByteArray) (a1_0 : Int) (a1_1 : Int) (a1_2 : ByteArray) (a2_0 : Int) (a2_1 : Int) (a2_2 : ByteArray) : Option (Bool) := (value_Order.f a0_0 a0_1 a0_2 a1_0 a1_1 a1_2).bind fun t241 => ((value_Order.f a1_0 a1_1 a1_2 a2_0 a2_1 a2_2).bind fun t242 => ((value_Order.f a0_0 a0_1 a0_2 a2_0 a2_1 a2_2).bind fun t243 => ((value_Order.f a1_0 a1_1 a1_2 a0_0 a0_1 a0_2).bind fun t244 => (if t244 = (wrap64 (-t241)) then (if t241 ≤ 0 then (if t242 ≤ 0 then (if t243 > 0 then (chancerylaw17_ValueOrder.j0 k true a0_0 a0_1 a0_2 a1_0 a1_1 a1_2) else (if t241 = 0 then (if (!(a0_0 == a1_0) || (!(a0_1 == a1_1) || (!(a0_2.toList == a1_2.toList)))) = true then (chancerylaw17_ValueOrder.j0 k true a0_0 a0_1 a0_2 a1_0 a1_1 a1_2) else (if t241 < 0 then (chancerylaw17_ValueOrder.j0 k (decide (t243 ≥ 0)) a0_0 a0_1 a0_2 a1_0 a1_1 a1_2) else (chancerylaw17_ValueOrder.j0 k false a0_0 a0_1 a0_2 a1_0 a1_1 a1_2))) else (if t241 < 0 then (chancerylaw17_ValueOrder.j0 k (decide (t243 ≥ 0)) a0_0 a0_1 a0_2 a1_0 a1_1 a1_2) else (chancerylaw17_ValueOrder.j0 k false a0_0 a0_1 a0_2 a1_0 a1_1 a1_2)))) else (if t241 = 0 then (if (!(a0_0 == a1_0) || (!(a0_1 == a1_1) || (!(a0_2.toList == a1_2.toList)))) = true then (chancerylaw17_ValueOrder.j0 k true a0_0 a0_1 a0_2 a1_0 a1_1 a1_2) else (if t241 < 0 then (chancerylaw17_ValueOrder.j0 k false a0_0 a0_1 a0_2 a1_0 a1_1 a1_2) else (chancerylaw17_ValueOrder.j0 k false a0_0 a0_1 a0_2 a1_0 a1_1 a1_2))) else (if t241 < 0 then (chancerylaw17_ValueOrder.j0 k false a0_0 a0_1 a0_2 a1_0 a1_1 a1_2) else (chancerylaw17_ValueOrder.j0 k false a0_0 a0_1 a0_2 a1_0 a1_1 a1_2)))) else (if t241 = 0 then (if (!(a0_0 == a1_0) || (!(a0_1 == a1_1) || (!(a0_2.toList == a1_2.toList)))) = true then (chancerylaw17_ValueOrder.j0 k true a0_0 a0_1 a0_2 a1_0 a1_1 a1_2) else (if t241 < 0 then (if t242 ≤ 0 then (chancerylaw17_ValueOrder.j0 k (decide (t243 ≥ 0)) a0_0 a0_1 a0_2 a1_0 a1_1 a1_2) else (chancerylaw17_ValueOrder.j0 k false a0_0 a0_1 a0_2 a1_0 a1_1 a1_2)) else (chancerylaw17_ValueOrder.j0 k false a0_0 a0_1 a0_2 a1_0 a1_1 a1_2))) else (if t241 < 0 then (if t242 ≤ 0 then (chancerylaw17_ValueOrder.j0 k (decide (t243 ≥ 0)) a0_0 a0_1 a0_2 a1_0 a1_1 a1_2) else (chancerylaw17_ValueOrder.j0 k false a0_0 a0_1 a0_2 a1_0 a1_1 a1_2)) else (chancerylaw17_ValueOrder.j0 k false a0_0 a0_1 a0_2 a1_0 a1_1 a1_2)))) else (chancerylaw17_ValueOrder.j0 k true a0_0 a0_1 a0_2 a1_0 a1_1 a1_2)))))
theorem chancerylaw17_ValueOrder.mono_l : ∀ k, (∀ y0 y1 y2 y3 y4 y5 y6, LeO (chancerylaw17_ValueOrder.j0 k y0 y1 y2 y3 y4 y5 y6) (chancerylaw17_ValueOrder.j0 (k + 1) y0 y1 y2 y3 y4 y5 y6)) ∧ (∀ y0 y1 y2 y3 y4 y5 y6 y7, LeO (chancerylaw17_ValueOrder.j1 k y0 y1 y2 y3 y4 y5 y6 y7) (chancerylaw17_ValueOrder.j1 (k + 1) y0 y1 y2 y3 y4 y5 y6 y7)) ∧ (∀ y0 y1 y2 y3 y4 y5 y6, LeO (chancerylaw17_ValueOrder.j2 k y0 y1 y2 y3 y4 y5 y6) (chancerylaw17_ValueOrder.j2 (k + 1) y0 y1 y2 y3 y4 y5 y6))
  | 0 => ⟨fun _ _ _ _ _ _ _ r h => by simp [chancerylaw17_ValueOrder.j0] at h, fun _ _ _ _ _ _ _ _ r h => by simp [chancerylaw17_ValueOrder.j1] at h, fun _ _ _ _ _ _ _ r h => by simp [chancerylaw17_ValueOrder.j2] at h⟩
  | k + 1 => by
    obtain ⟨ih0, ih1, ih2⟩ := chancerylaw17_ValueOrder.mono_l k
    refine ⟨?_, ?_, ?_⟩
    · intro y0 y1 y2 y3 y4 y5 y6
      unfold chancerylaw17_ValueOrder.j0
      repeat' first
      | (with_reducible exact ih0 _ _ _ _ _ _ _)
      | (with_reducible exact ih1 _ _ _ _ _ _ _ _)
      | (with_reducible exact ih2 _ _ _ _ _ _ _)
      | (with_reducible exact LeO.refl _)
      | (with_reducible exact LeO.none _)
      | (with_reducible refine LeO.ite ?_ ?_)
      | (with_reducible refine LeO.bind ?_ (fun _ => ?_))
      | exact ih0 _ _ _ _ _ _ _
      | exact ih1 _ _ _ _ _ _ _ _
      | exact ih2 _ _ _ _ _ _ _
      | exact LeO.none _
      | refine LeO.ite ?_ ?_
      | refine LeO.bind ?_ (fun _ => ?_)
    · intro y0 y1 y2 y3 y4 y5 y6 y7
      unfold chancerylaw17_ValueOrder.j1
      repeat' first
      | (with_reducible exact ih0 _ _ _ _ _ _ _)
      | (with_reducible exact ih1 _ _ _ _ _ _ _ _)
      | (with_reducible exact ih2 _ _ _ _ _ _ _)
      | (with_reducible exact LeO.refl _)
      | (with_reducible exact LeO.none _)
      | (with_reducible refine LeO.ite ?_ ?_)
      | (with_reducible refine LeO.bind ?_ (fun _ => ?_))
      | exact ih0 _ _ _ _ _ _ _
      | exact ih1 _ _ _ _ _ _ _ _
      | exact ih2 _ _ _ _ _ _ _
      | exact LeO.none _
      | refine LeO.ite ?_ ?_
      | refine LeO.bind ?_ (fun _ => ?_)
    · intro y0 y1 y2 y3 y4 y5 y6
      unfold chancerylaw17_ValueOrder.j2
      repeat' first
      | (with_reducible exact ih0 _ _ _ _ _ _ _)
      | (with_reducible exact ih1 _ _ _ _ _ _ _ _)
      | (with_reducible exact ih2 _ _ _ _ _ _ _)
      | (with_reducible exact LeO.refl _)
      | (with_reducible exact LeO.none _)
      | (with_reducible refine LeO.ite ?_ ?_)
      | (with_reducible refine LeO.bind ?_ (fun _ => ?_))
      | exact ih0 _ _ _ _ _ _ _
      | exact ih1 _ _ _ _ _ _ _ _
      | exact ih2 _ _ _ _ _ _ _
      | exact LeO.none _
      | refine LeO.ite ?_ ?_
      | refine LeO.bind ?_ (fun _ => ?_)
theorem chancerylaw17_ValueOrder.mono : ∀ a0 a1 a2 a3 a4 a5 a6 a7 a8 k, LeO (chancerylaw17_ValueOrder.f k a0 a1 a2 a3 a4 a5 a6 a7 a8) (chancerylaw17_ValueOrder.f (k + 1) a0 a1 a2 a3 a4 a5 a6 a7 a8) := by
  intro a0 a1 a2 a3 a4 a5 a6 a7 a8 k
  obtain ⟨ih0, ih1, ih2⟩ := chancerylaw17_ValueOrder.mono_l k
  unfold chancerylaw17_ValueOrder.f
  repeat' first
      | (with_reducible exact ih0 _ _ _ _ _ _ _)
      | (with_reducible exact ih1 _ _ _ _ _ _ _ _)
      | (with_reducible exact ih2 _ _ _ _ _ _ _)
      | (with_reducible exact LeO.refl _)
      | (with_reducible exact LeO.none _)
      | (with_reducible refine LeO.ite ?_ ?_)
      | (with_reducible refine LeO.bind ?_ (fun _ => ?_))
      | exact ih0 _ _ _ _ _ _ _
      | exact ih1 _ _ _ _ _ _ _ _
      | exact ih2 _ _ _ _ _ _ _
      | exact LeO.none _
      | refine LeO.ite ?_ ?_
      | refine LeO.bind ?_ (fun _ => ?_)
def chancerylaw17_ValueOrder.T1 : Bool × List (List Nat × List Nat) := (true, [([], []), ([], []), ([0, 1], [0, 1]), ([], []), ([], []), ([3, 4, 2], [3, 4]), ([], []), ([], []), ([6, 7, 5], [6, 7]), ([2, 8, 0, 1, 2], [2]), ([5, 9, 0, 1, 2, 3, 4, 5, 9], [5]), ([8, 10, 0, 1, 2, 3, 4, 5, 6, 7, 8, 9, 10], [8])])
def chancerylaw17_ValueOrder.B1 : List Nat := [0, 0, 3, 0, 0, 31, 0, 0, 255, 511, 1023, 2047]
theorem chancerylaw17_ValueOrder.tab1 : rtab .any (opsOf Tryd.f5 1) = chancerylaw17_ValueOrder.T1 := by kernel_rfl
theorem chancerylaw17_ValueOrder.bits1 : waitsOk chancerylaw17_ValueOrder.T1.2 chancerylaw17_ValueOrder.B1 = true := by kernel_rfl
set_option maxHeartbeats 8000000 in
set_option maxRecDepth 100000 in
theorem chancerylaw17_ValueOrder.calls (k : Nat) (a0_0 : Int) (a0_1 : Int) (a0_2 : ByteArray) (a1_0 : Int) (a1_1 : Int) (a1_2 : ByteArray) (a2_0 : Int) (a2_1 : Int) (a2_2 : ByteArray) (r : Bool) (w : World) (h : chancerylaw17_ValueOrder.f k a0_0 a0_1 a0_2 a1_0 a1_1 a1_2 a2_0 a2_1 a2_2 = some r) (hg : VOK w) :
    Calls Tryd.prog 5 #[.agg #[.int .u8 a0_0, .int .i64 a0_1, .string a0_2], .agg #[.int .u8 a1_0, .int .i64 a1_1, .string a1_2], .agg #[.int .u8 a2_0, .int .i64 a2_1, .string a2_2]] w fun e w' => e = .returned (.bool r) ∧ Below w.heap.size w w' := by
  have HG := Aside0.mk hg
  clear hg
  have hu25 := Tryd.underlying25
  have HB := Aside0.mk (Below.refl w.heap.size w)
  have H : ((value_Order.f a0_0 a0_1 a0_2 a1_0 a1_1 a1_2).bind fun t241 => ((value_Order.f a1_0 a1_1 a1_2 a2_0 a2_1 a2_2).bind fun t242 => ((value_Order.f a0_0 a0_1 a0_2 a2_0 a2_1 a2_2).bind fun t243 => ((value_Order.f a1_0 a1_1 a1_2 a0_0 a0_1 a0_2).bind fun t244 => (if t244 = (wrap64 (-t241)) then (if t241 ≤ 0 then (if t242 ≤ 0 then (if t243 > 0 then (chancerylaw17_ValueOrder.j0 k true a0_0 a0_1 a0_2 a1_0 a1_1 a1_2) else (if t241 = 0 then (if (!(a0_0 == a1_0) || (!(a0_1 == a1_1) || (!(a0_2.toList == a1_2.toList)))) = true then (chancerylaw17_ValueOrder.j0 k true a0_0 a0_1 a0_2 a1_0 a1_1 a1_2) else (if t241 < 0 then (chancerylaw17_ValueOrder.j0 k (decide (t243 ≥ 0)) a0_0 a0_1 a0_2 a1_0 a1_1 a1_2) else (chancerylaw17_ValueOrder.j0 k false a0_0 a0_1 a0_2 a1_0 a1_1 a1_2))) else (if t241 < 0 then (chancerylaw17_ValueOrder.j0 k (decide (t243 ≥ 0)) a0_0 a0_1 a0_2 a1_0 a1_1 a1_2) else (chancerylaw17_ValueOrder.j0 k false a0_0 a0_1 a0_2 a1_0 a1_1 a1_2)))) else (if t241 = 0 then (if (!(a0_0 == a1_0) || (!(a0_1 == a1_1) || (!(a0_2.toList == a1_2.toList)))) = true then (chancerylaw17_ValueOrder.j0 k true a0_0 a0_1 a0_2 a1_0 a1_1 a1_2) else (if t241 < 0 then (chancerylaw17_ValueOrder.j0 k false a0_0 a0_1 a0_2 a1_0 a1_1 a1_2) else (chancerylaw17_ValueOrder.j0 k false a0_0 a0_1 a0_2 a1_0 a1_1 a1_2))) else (if t241 < 0 then (chancerylaw17_ValueOrder.j0 k false a0_0 a0_1 a0_2 a1_0 a1_1 a1_2) else (chancerylaw17_ValueOrder.j0 k false a0_0 a0_1 a0_2 a1_0 a1_1 a1_2)))) else (if t241 = 0 then (if (!(a0_0 == a1_0) || (!(a0_1 == a1_1) || (!(a0_2.toList == a1_2.toList)))) = true then (chancerylaw17_ValueOrder.j0 k true a0_0 a0_1 a0_2 a1_0 a1_1 a1_2) else (if t241 < 0 then (if t242 ≤ 0 then (chancerylaw17_ValueOrder.j0 k (decide (t243 ≥ 0)) a0_0 a0_1 a0_2 a1_0 a1_1 a1_2) else (chancerylaw17_ValueOrder.j0 k false a0_0 a0_1 a0_2 a1_0 a1_1 a1_2)) else (chancerylaw17_ValueOrder.j0 k false a0_0 a0_1 a0_2 a1_0 a1_1 a1_2))) else (if t241 < 0 then (if t242 ≤ 0 then (chancerylaw17_ValueOrder.j0 k (decide (t243 ≥ 0)) a0_0 a0_1 a0_2 a1_0 a1_1 a1_2) else (chancerylaw17_ValueOrder.j0 k false a0_0 a0_1 a0_2 a1_0 a1_1 a1_2)) else (chancerylaw17_ValueOrder.j0 k false a0_0 a0_1 a0_2 a1_0 a1_1 a1_2)))) else (chancerylaw17_ValueOrder.j0 k true a0_0 a0_1 a0_2 a1_0 a1_1 a1_2)))))) = some r := h
  clear h
  replace H := Option.bind_eq_some_iff.mp H
  obtain ⟨t241, A40, H⟩ := H
  replace H : ((value_Order.f a1_0 a1_1 a1_2 a2_0 a2_1 a2_2).bind fun t242 => ((value_Order.f a0_0 a0_1 a0_2 a2_0 a2_1 a2_2).bind fun t243 => ((value_Order.f a1_0 a1_1 a1_2 a0_0 a0_1 a0_2).bind fun t244 => (if t244 = (wrap64 (-t241)) then (if t241 ≤ 0 then (if t242 ≤ 0 then (if t243 > 0 then (chancerylaw17_ValueOrder.j0 k true a0_0 a0_1 a0_2 a1_0 a1_1 a1_2) else (if t241 = 0 then (if (!(a0_0 == a1_0) || (!(a0_1 == a1_1) || (!(a0_2.toList == a1_2.toList)))) = true then (chancerylaw17_ValueOrder.j0 k true a0_0 a0_1 a0_2 a1_0 a1_1 a1_2) else (if t241 < 0 then (chancerylaw17_ValueOrder.j0 k (decide (t243 ≥ 0)) a0_0 a0_1 a0_2 a1_0 a1_1 a1_2) else (chancerylaw17_ValueOrder.j0 k false a0_0 a0_1 a0_2 a1_0 a1_1 a1_2))) else (if t241 < 0 then (chancerylaw17_ValueOrder.j0 k (decide (t243 ≥ 0)) a0_0 a0_1 a0_2 a1_0 a1_1 a1_2) else (chancerylaw17_ValueOrder.j0 k false a0_0 a0_1 a0_2 a1_0 a1_1 a1_2)))) else (if t241 = 0 then (if (!(a0_0 == a1_0) || (!(a0_1 == a1_1) || (!(a0_2.toList == a1_2.toList)))) = true then (chancerylaw17_ValueOrder.j0 k true a0_0 a0_1 a0_2 a1_0 a1_1 a1_2) else (if t241 < 0 then (chancerylaw17_ValueOrder.j0 k false a0_0 a0_1 a0_2 a1_0 a1_1 a1_2) else (chancerylaw17_ValueOrder.j0 k false a0_0 a0_1 a0_2 a1_0 a1_1 a1_2))) else (if t241 < 0 then (chancerylaw17_ValueOrder.j0 k false a0_0 a0_1 a0_2 a1_0 a1_1 a1_2) else (chancerylaw17_ValueOrder.j0 k false a0_0 a0_1 a0_2 a1_0 a1_1 a1_2)))) else (if t241 = 0 then (if (!(a0_0 == a1_0) || (!(a0_1 == a1_1) || (!(a0_2.toList == a1_2.toList)))) = true then (chancerylaw17_ValueOrder.j0 k true a0_0 a0_1 a0_2 a1_0 a1_1 a1_2) else (if t241 < 0 then (if t242 ≤ 0 then (chancerylaw17_ValueOrder.j0 k (decide (t243 ≥ 0)) a0_0 a0_1 a0_2 a1_0 a1_1 a1_2) else (chancerylaw17_ValueOrder.j0 k false a0_0 a0_1 a0_2 a1_0 a1_1 a1_2)) else (chancerylaw17_ValueOrder.j0 k false a0_0 a0_1 a0_2 a1_0 a1_1 a1_2))) else (if t241 < 0 then (if t242 ≤ 0 then (chancerylaw17_ValueOrder.j0 k (decide (t243 ≥ 0)) a0_0 a0_1 a0_2 a1_0 a1_1 a1_2) else (chancerylaw17_ValueOrder.j0 k false a0_0 a0_1 a0_2 a1_0 a1_1 a1_2)) else (chancerylaw17_ValueOrder.j0 k false a0_0 a0_1 a0_2 a1_0 a1_1 a1_2)))) else (chancerylaw17_ValueOrder.j0 k true a0_0 a0_1 a0_2 a1_0 a1_1 a1_2))))) = some r := H
  have A4 := Aside0.mk A40
  clear A40
  replace H := Option.bind_eq_some_iff.mp H
  obtain ⟨t242, A50, H⟩ := H
  replace H : ((value_Order.f a0_0 a0_1 a0_2 a2_0 a2_1 a2_2).bind fun t243 => ((value_Order.f a1_0 a1_1 a1_2 a0_0 a0_1 a0_2).bind fun t244 => (if t244 = (wrap64 (-t241)) then (if t241 ≤ 0 then (if t242 ≤ 0 then (if t243 > 0 then (chancerylaw17_ValueOrder.j0 k true a0_0 a0_1 a0_2 a1_0 a1_1 a1_2) else (if t241 = 0 then (if (!(a0_0 == a1_0) || (!(a0_1 == a1_1) || (!(a0_2.toList == a1_2.toList)))) = true then (chancerylaw17_ValueOrder.j0 k true a0_0 a0_1 a0_2 a1_0 a1_1 a1_2) else (if t241 < 0 then (chancerylaw17_ValueOrder.j0 k (decide (t243 ≥ 0)) a0_0 a0_1 a0_2 a1_0 a1_1 a1_2) else (chancerylaw17_ValueOrder.j0 k false a0_0 a0_1 a0_2 a1_0 a1_1 a1_2))) else (if t241 < 0 then (chancerylaw17_ValueOrder.j0 k (decide (t243 ≥ 0)) a0_0 a0_1 a0_2 a1_0 a1_1 a1_2) else (chancerylaw17_ValueOrder.j0 k false a0_0 a0_1 a0_2 a1_0 a1_1 a1_2)))) else (if t241 = 0 then (if (!(a0_0 == a1_0) || (!(a0_1 == a1_1) || (!(a0_2.toList == a1_2.toList)))) = true then (chancerylaw17_ValueOrder.j0 k true a0_0 a0_1 a0_2 a1_0 a1_1 a1_2) else (if t241 < 0 then (chancerylaw17_ValueOrder.j0 k false a0_0 a0_1 a0_2 a1_0 a1_1 a1_2) else (chancerylaw17_ValueOrder.j0 k false a0_0 a0_1 a0_2 a1_0 a1_1 a1_2))) else (if t241 < 0 then (chancerylaw17_ValueOrder.j0 k false a0_0 a0_1 a0_2 a1_0 a1_1 a1_2) else (chancerylaw17_ValueOrder.j0 k false a0_0 a0_1 a0_2 a1_0 a1_1 a1_2)))) else (if t241 = 0 then (if (!(a0_0 == a1_0) || (!(a0_1 == a1_1) || (!(a0_2.toList == a1_2.toList)))) = true then (chancerylaw17_ValueOrder.j0 k true a0_0 a0_1 a0_2 a1_0 a1_1 a1_2) else (if t241 < 0 then (if t242 ≤ 0 then (chancerylaw17_ValueOrder.j0 k (decide (t243 ≥ 0)) a0_0 a0_1 a0_2 a1_0 a1_1 a1_2) else (chancerylaw17_ValueOrder.j0 k false a0_0 a0_1 a0_2 a1_0 a1_1 a1_2)) else (chancerylaw17_ValueOrder.j0 k false a0_0 a0_1 a0_2 a1_0 a1_1 a1_2))) else (if t241 < 0 then (if t242 ≤ 0 then (chancerylaw17_ValueOrder.j0 k (decide (t243 ≥ 0)) a0_0 a0_1 a0_2 a1_0 a1_1 a1_2) else (chancerylaw17_ValueOrder.j0 k false a0_0 a0_1 a0_2 a1_0 a1_1 a1_2)) else (chancerylaw17_ValueOrder.j0 k false a0_0 a0_1 a0_2 a1_0 a1_1 a1_2)))) else (chancerylaw17_ValueOrder.j0 k true a0_0 a0_1 a0_2 a1_0 a1_1 a1_2)))) = some r := H
  have A5 := Aside0.mk A50
  clear A50
  replace H := Option.bind_eq_some_iff.mp H
  obtain ⟨t243, A60, H⟩ := H
  replace H : ((value_Order.f a1_0 a1_1 a1_2 a0_0 a0_1 a0_2).bind fun t244 => (if t244 = (wrap64 (-t241)) then (if t241 ≤ 0 then (if t242 ≤ 0 then (if t243 > 0 then (chancerylaw17_ValueOrder.j0 k true a0_0 a0_1 a0_2 a1_0 a1_1 a1_2) else (if t241 = 0 then (if (!(a0_0 == a1_0) || (!(a0_1 == a1_1) || (!(a0_2.toList == a1_2.toList)))) = true then (chancerylaw17_ValueOrder.j0 k true a0_0 a0_1 a0_2 a1_0 a1_1 a1_2) else (if t241 < 0 then (chancerylaw17_ValueOrder.j0 k (decide (t243 ≥ 0)) a0_0 a0_1 a0_2 a1_0 a1_1 a1_2) else (chancerylaw17_ValueOrder.j0 k false a0_0 a0_1 a0_2 a1_0 a1_1 a1_2))) else (if t241 < 0 then (chancerylaw17_ValueOrder.j0 k (decide (t243 ≥ 0)) a0_0 a0_1 a0_2 a1_0 a1_1 a1_2) else (chancerylaw17_ValueOrder.j0 k false a0_0 a0_1 a0_2 a1_0 a1_1 a1_2)))) else (if t241 = 0 then (if (!(a0_0 == a1_0) || (!(a0_1 == a1_1) || (!(a0_2.toList == a1_2.toList)))) = true then (chancerylaw17_ValueOrder.j0 k true a0_0 a0_1 a0_2 a1_0 a1_1 a1_2) else (if t241 < 0 then (chancerylaw17_ValueOrder.j0 k false a0_0 a0_1 a0_2 a1_0 a1_1 a1_2) else (chancerylaw17_ValueOrder.j0 k false a0_0 a0_1 a0_2 a1_0 a1_1 a1_2))) else (if t241 < 0 then (chancerylaw17_ValueOrder.j0 k false a0_0 a0_1 a0_2 a1_0 a1_1 a1_2) else (chancerylaw17_ValueOrder.j0 k false a0_0 a0_1 a0_2 a1_0 a1_1 a1_2)))) else (if t241 = 0 then (if (!(a0_0 == a1_0) || (!(a0_1 == a1_1) || (!(a0_2.toList == a1_2.toList)))) = true then (chancerylaw17_ValueOrder.j0 k true a0_0 a0_1 a0_2 a1_0 a1_1 a1_2) else (if t241 < 0 then (if t242 ≤ 0 then (chancerylaw17_ValueOrder.j0 k (decide (t243 ≥ 0)) a0_0 a0_1 a0_2 a1_0 a1_1 a1_2) else (chancerylaw17_ValueOrder.j0 k false a0_0 a0_1 a0_2 a1_0 a1_1 a1_2)) else (chancerylaw17_ValueOrder.j0 k false a0_0 a0_1 a0_2 a1_0 a1_1 a1_2))) else (if t241 < 0 then (if t242 ≤ 0 then (chancerylaw17_ValueOrder.j0 k (decide (t243 ≥ 0)) a0_0 a0_1 a0_2 a1_0 a1_1 a1_2) else (chancerylaw17_ValueOrder.j0 k false a0_0 a0_1 a0_2 a1_0 a1_1 a1_2)) else (chancerylaw17_ValueOrder.j0 k false a0_0 a0_1 a0_2 a1_0 a1_1 a1_2)))) else (chancerylaw17_ValueOrder.j0 k true a0_0 a0_1 a0_2 a1_0 a1_1 a1_2))) = some r := H
  have A6 := Aside0.mk A60
  clear A60
  have HC7 := Aside0.mk H
  clear H
  go_enter Tryd.func5, Tryd.ntmps5
  try go_wp2_with (first | ((with_reducible refine gate_dst (N := 3) rfl ?_); refine box_event ?hg (N := 3) ?hd (cs := #[.int .u8 a0_0, .int .i64 a0_1, .string a0_2]) (t := 25) ?hr ?_; (case hd => rfl); (case hg => rfl); (case hr => first | (go_simp; done) | (go_simp; rfl)); intro gb238 hg w8 hbox hb; have n0_ := Aside0.mk (below_step (by repeat (first | (with_reducible first | exact HB.out | apply below_alloc | apply pw_below_drewN | apply below_drew1) | exact HB.out)) hb); have n1_ := Aside0.mk (hbox); have n2_ := Aside0.mk ((by rw [hg]; exact (below_size (by repeat (first | (with_reducible first | exact HB.out | apply below_alloc | apply pw_below_drewN | apply below_drew1) | exact HB.out))) : w.heap.size ≤ gb238)); have n3_ := Aside0.mk ((by rw [hg]; exact (below_size (by repeat (first | (with_reducible first | exact HB.out | apply below_alloc | apply pw_below_drewN | apply below_drew1) | exact HB.out))) : w.heap.size ≤ gb238)); clear HB; have HB := n0_; have BK238 := n1_; have GW238 := n2_; have GE238 := n3_; clear n0_ n1_ n2_ n3_; clear hb hbox hg) | ((with_reducible refine gate_dst (N := 4) rfl ?_); refine box_event ?hg (N := 4) ?hd (cs := #[.int .u8 a1_0, .int .i64 a1_1, .string a1_2]) (t := 25) ?hr ?_; (case hd => rfl); (case hg => rfl); (case hr => first | (go_simp; done) | (go_simp; rfl)); intro gb239 hg w9 hbox hb; have n0_ := Aside0.mk (blk_below (g := gb238) (o := .cells #[.int .u8 a0_0, .int .i64 a0_1, .string a0_2] 25 (0, 0)) (by (with_reducible repeat (first | refine blk_drewN ?_ _ | refine blk_drew ?_ | refine blk_alloc ?_ _)); exact BK238.out) hb); have n1_ := Aside0.mk (below_step (by repeat (first | (with_reducible first | exact HB.out | apply below_alloc | apply pw_below_drewN | apply below_drew1 | refine below_set ?_ GE238.out) | exact HB.out)) hb); have n2_ := Aside0.mk (hbox); have n3_ := Aside0.mk ((by rw [hg]; exact (below_size (by repeat (first | (with_reducible first | exact HB.out | apply below_alloc | apply pw_below_drewN | apply below_drew1 | refine below_set ?_ GE238.out) | exact HB.out))) : w.heap.size ≤ gb239)); have n4_ := Aside0.mk ((by rw [hg]; exact (below_size (by repeat (first | (with_reducible first | exact HB.out | apply below_alloc | apply pw_below_drewN | apply below_drew1 | refine below_set ?_ GE238.out) | exact HB.out))) : w.heap.size ≤ gb239)); have n5_ := Aside0.mk ((by rw [hg]; exact Nat.ne_of_lt (blk_lt (g := gb238) (o := .cells #[.int .u8 a0_0, .int .i64 a0_1, .string a0_2] 25 (0, 0)) (by (with_reducible repeat (first | refine blk_drewN ?_ _ | refine blk_drew ?_ | refine blk_alloc ?_ _)); exact BK238.out)) : gb238 ≠ gb239)); have n6_ := Aside0.mk ((by rw [hg]; exact Nat.ne_of_gt (blk_lt (g := gb238) (o := .cells #[.int .u8 a0_0, .int .i64 a0_1, .string a0_2] 25 (0, 0)) (by (with_reducible repeat (first | refine blk_drewN ?_ _ | refine blk_drew ?_ | refine blk_alloc ?_ _)); exact BK238.out)) : gb239 ≠ gb238)); clear BK238; clear HB; have BK238 := n0_; have HB := n1_; have BK239 := n2_; have GW239 := n3_; have GE239 := n4_; have NB238_239 := n5_; have NB239_238 := n6_; clear n0_ n1_ n2_ n3_ n4_ n5_ n6_; clear hb hbox hg) | ((with_reducible refine gate_dst (N := 5) rfl ?_); refine box_event ?hg (N := 5) ?hd (cs := #[.int .u8 a2_0, .int .i64 a2_1, .string a2_2]) (t := 25) ?hr ?_; (case hd => rfl); (case hg => rfl); (case hr => first | (go_simp; done) | (go_simp; rfl)); intro gb240 hg w10 hbox hb; have n0_ := Aside0.mk (blk_below (g := gb238) (o := .cells #[.int .u8 a0_0, .int .i64 a0_1, .string a0_2] 25 (0, 0)) (by (with_reducible repeat (first | refine blk_drewN ?_ _ | refine blk_drew ?_ | refine blk_alloc ?_ _)); exact BK238.out) hb); have n1_ := Aside0.mk (blk_below (g := gb239) (o := .cells #[.int .u8 a1_0, .int .i64 a1_1, .string a1_2] 25 (0, 0)) (by (with_reducible repeat (first | refine blk_drewN ?_ _ | refine blk_drew ?_ | refine blk_alloc ?_ _)); exact BK239.out) hb); have n2_ := Aside0.mk (below_step (by repeat (first | (with_reducible first | exact HB.out | apply below_alloc | apply pw_below_drewN | apply below_drew1 | refine below_set ?_ GE238.out | refine below_set ?_ GE239.out) | exact HB.out)) hb); have n3_ := Aside0.mk (hbox); have n4_ := Aside0.mk ((by rw [hg]; exact (below_size (by repeat (first | (with_reducible first | exact HB.out | apply below_alloc | apply pw_below_drewN | apply below_drew1 | refine below_set ?_ GE238.out | refine below_set ?_ GE239.out) | exact HB.out))) : w.heap.size ≤ gb240)); have n5_ := Aside0.mk ((by rw [hg]; exact (below_size (by repeat (first | (with_reducible first | exact HB.out | apply below_alloc | apply pw_below_drewN | apply below_drew1 | refine below_set ?_ GE238.out | refine below_set ?_ GE239.out) | exact HB.out))) : w.heap.size ≤ gb240)); have n6_ := Aside0.mk ((by rw [hg]; exact Nat.ne_of_lt (blk_lt (g := gb238) (o := .cells #[.int .u8 a0_0, .int .i64 a0_1, .string a0_2] 25 (0, 0)) (by (with_reducible repeat (first | refine blk_drewN ?_ _ | refine blk_drew ?_ | refine blk_alloc ?_ _)); exact BK238.out)) : gb238 ≠ gb240)); have n7_ := Aside0.mk ((by rw [hg]; exact Nat.ne_of_gt (blk_lt (g := gb238) (o := .cells #[.int .u8 a0_0, .int .i64 a0_1, .string a0_2] 25 (0, 0)) (by (with_reducible repeat (first | refine blk_drewN ?_ _ | refine blk_drew ?_ | refine blk_alloc ?_ _)); exact BK238.out)) : gb240 ≠ gb238)); have n8_ := Aside0.mk ((by rw [hg]; exact Nat.ne_of_lt (blk_lt (g := gb239) (o := .cells #[.int .u8 a1_0, .int .i64 a1_1, .string a1_2] 25 (0, 0)) (by (with_reducible repeat (first | refine blk_drewN ?_ _ | refine blk_drew ?_ | refine blk_alloc ?_ _)); exact BK239.out)) : gb239 ≠ gb240)); have n9_ := Aside0.mk ((by rw [hg]; exact Nat.ne_of_gt (blk_lt (g := gb239) (o := .cells #[.int .u8 a1_0, .int .i64 a1_1, .string a1_2] 25 (0, 0)) (by (with_reducible repeat (first | refine blk_drewN ?_ _ | refine blk_drew ?_ | refine blk_alloc ?_ _)); exact BK239.out)) : gb240 ≠ gb239)); clear BK238; clear BK239; clear HB; have BK238 := n0_; have BK239 := n1_; have HB := n2_; have BK240 := n3_; have GW240 := n4_; have GE240 := n5_; have NB238_240 := n6_; have NB240_238 := n7_; have NB239_240 := n8_; have NB240_239 := n9_; clear n0_ n1_ n2_ n3_ n4_ n5_ n6_ n7_ n8_ n9_; clear hb hbox hg))
  have n0_ := Aside0.mk (blk_drew BK238.out)
  have n1_ := Aside0.mk (blk_drew BK239.out)
  have n2_ := Aside0.mk (blk_drew BK240.out)
  have n3_ := Aside0.mk (below_drew1 HB.out)
  clear BK238
  clear BK239
  clear BK240
  clear HB
  have BK238 := n0_
  have BK239 := n1_
  have BK240 := n2_
  have HB := n3_
  clear n0_ n1_ n2_ n3_
  refine start_ (n := 12) (S := fun w' => w'.cell? ⟨gb238, 0, none⟩ = some (.int .u8 a0_0) ∧ w'.cell? ⟨gb238, 1, none⟩ = some (.int .i64 a0_1) ∧ w'.cell? ⟨gb238, 2, none⟩ = some (.string a0_2) ∧ w'.cell? ⟨gb239, 0, none⟩ = some (.int .u8 a1_0) ∧ w'.cell? ⟨gb239, 1, none⟩ = some (.int .i64 a1_1) ∧ w'.cell? ⟨gb239, 2, none⟩ = some (.string a1_2) ∧ w'.cell? ⟨gb240, 0, none⟩ = some (.int .u8 a2_0) ∧ w'.cell? ⟨gb240, 1, none⟩ = some (.int .i64 a2_1) ∧ w'.cell? ⟨gb240, 2, none⟩ = some (.string a2_2)) (ds := []) #[false, false, false, false, false, false, false, false, false, false, false, false] (by kernel_rfl) rfl rfl ⟨(blk_cell BK238.out 0).trans rfl, (blk_cell BK238.out 1).trans rfl, (blk_cell BK238.out 2).trans rfl, (blk_cell BK239.out 0).trans rfl, (blk_cell BK239.out 1).trans rfl, (blk_cell BK239.out 2).trans rfl, (blk_cell BK240.out 0).trans rfl, (blk_cell BK240.out 1).trans rfl, (blk_cell BK240.out 2).trans rfl⟩ (fun hHeld => ?_); refine with_tabW chancerylaw17_ValueOrder.tab1 chancerylaw17_ValueOrder.bits1 (fun HT_ HW_ => ?_)
  generalize w10.drew = w11 at BK238 BK239 BK240 HB hHeld ⊢
  refine take_ (i := 0) (N := some 18) (v := ?_) (a' := ?_) #[true, false, false, false, false, false, false, false, false, false, false, false] rfl rfl (take_ofW HT_.out HW_.out (by kernel_rfl)) (fun _ _ _ h => h) (Or.inl ⟨by rfl, ?_⟩) hHeld ?_ ?_
  rotate_left
  · rintro w' ⟨s0, s1, s2, s3, s4, s5, s6, s7, s8⟩
    go_simp
    with_reducible rfl
  rotate_left
  · simp only [Act.put, List.setIfInBounds_toArray, List.set_cons_zero, List.set_cons_succ, i64_w, i32_w]
    rfl
  refine take_ (i := 1) (N := some 19) (v := ?_) (a' := ?_) #[true, true, false, false, false, false, false, false, false, false, false, false] rfl rfl (take_ofW HT_.out HW_.out (by kernel_rfl)) (fun _ _ _ h => h) (Or.inl ⟨by rfl, ?_⟩) hHeld ?_ ?_
  rotate_left
  · rintro w' ⟨s0, s1, s2, s3, s4, s5, s6, s7, s8⟩
    go_simp
    with_reducible rfl
  rotate_left
  · simp only [Act.put, List.setIfInBounds_toArray, List.set_cons_zero, List.set_cons_succ, i64_w, i32_w]
    rfl
  refine take_ (i := 3) (N := some 21) (v := ?_) (a' := ?_) #[true, true, false, true, false, false, false, false, false, false, false, false] rfl rfl (take_ofW HT_.out HW_.out (by kernel_rfl)) (fun _ _ _ h => h) (Or.inl ⟨by rfl, ?_⟩) hHeld ?_ ?_
  rotate_left
  · rintro w' ⟨s0, s1, s2, s3, s4, s5, s6, s7, s8⟩
    go_simp
    with_reducible rfl
  rotate_left
  · simp only [Act.put, List.setIfInBounds_toArray, List.set_cons_zero, List.set_cons_succ, i64_w, i32_w]
    rfl
  refine take_ (i := 4) (N := some 22) (v := ?_) (a' := ?_) #[true, true, false, true, true, false, false, false, false, false, false, false] rfl rfl (take_ofW HT_.out HW_.out (by kernel_rfl)) (fun _ _ _ h => h) (Or.inl ⟨by rfl, ?_⟩) hHeld ?_ ?_
  rotate_left
  · rintro w' ⟨s0, s1, s2, s3, s4, s5, s6, s7, s8⟩
    go_simp
    with_reducible rfl
  rotate_left
  · simp only [Act.put, List.setIfInBounds_toArray, List.set_cons_zero, List.set_cons_succ, i64_w, i32_w]
    rfl
  refine take_ (i := 6) (N := some 24) (v := ?_) (a' := ?_) #[true, true, false, true, true, false, true, false, false, false, false, false] rfl rfl (take_ofW HT_.out HW_.out (by kernel_rfl)) (fun _ _ _ h => h) (Or.inl ⟨by rfl, ?_⟩) hHeld ?_ ?_
  rotate_left
  · rintro w' ⟨s0, s1, s2, s3, s4, s5, s6, s7, s8⟩
    go_simp
    with_reducible rfl
  rotate_left
  · simp only [Act.put, List.setIfInBounds_toArray, List.set_cons_zero, List.set_cons_succ, i64_w, i32_w]
    rfl
  refine take_ (i := 7) (N := some 25) (v := ?_) (a' := ?_) #[true, true, false, true, true, false, true, true, false, false, false, false] rfl rfl (take_ofW HT_.out HW_.out (by kernel_rfl)) (fun _ _ _ h => h) (Or.inl ⟨by rfl, ?_⟩) hHeld ?_ ?_
  rotate_left
  · rintro w' ⟨s0, s1, s2, s3, s4, s5, s6, s7, s8⟩
    go_simp
    with_reducible rfl
  rotate_left
  · simp only [Act.put, List.setIfInBounds_toArray, List.set_cons_zero, List.set_cons_succ, i64_w, i32_w]
    rfl
  refine one_ (i := 2) (N := some 20) #[true, true, true, true, true, false, true, true, false, false, false, false] rfl rfl (one_of HT_.out (by kernel_rfl)) (by decide) (fun K hK => ?_)
  refine goes_ Tryd.func11 (by kernel_rfl) rfl #[.agg #[.int .u8 a0_0, .int .i64 a0_1, .string a0_2], .agg #[.int .u8 a1_0, .int .i64 a1_1, .string a1_2]] (by rfl) rfl rfl (by (try simp only [List.map_toArray, List.map_cons, List.map_nil]); first | done | rfl | (simp only [List.length_drop, List.length_take]; rfl)) ?_
  with_reducible refine (value_Order.calls a0_0 a0_1 a0_2 a1_0 a1_1 a1_2 t241 _ A4.out).mono ?_
  rintro e w12 ⟨rfl, hb⟩
  refine ⟨_, rfl, ?_⟩
  have n0_ := Aside0.mk (blk_below (g := gb238) (o := .cells #[.int .u8 a0_0, .int .i64 a0_1, .string a0_2] 25 (0, 0)) (by (with_reducible repeat (first | refine blk_drewN ?_ _ | refine blk_drew ?_ | refine blk_alloc ?_ _)); exact BK238.out) hb)
  have n1_ := Aside0.mk (blk_below (g := gb239) (o := .cells #[.int .u8 a1_0, .int .i64 a1_1, .string a1_2] 25 (0, 0)) (by (with_reducible repeat (first | refine blk_drewN ?_ _ | refine blk_drew ?_ | refine blk_alloc ?_ _)); exact BK239.out) hb)
  have n2_ := Aside0.mk (blk_below (g := gb240) (o := .cells #[.int .u8 a2_0, .int .i64 a2_1, .string a2_2] 25 (0, 0)) (by (with_reducible repeat (first | refine blk_drewN ?_ _ | refine blk_drew ?_ | refine blk_alloc ?_ _)); exact BK240.out) hb)
  have n3_ := Aside0.mk (below_step (by repeat (first | (with_reducible first | exact HB.out | apply below_alloc | apply pw_below_drewN | apply below_drew1 | refine below_set ?_ GE238.out | refine below_set ?_ GE239.out | refine below_set ?_ GE240.out) | exact HB.out)) hb)
  clear BK238
  clear BK239
  clear BK240
  clear HB
  have BK238 := n0_
  have BK239 := n1_
  have BK240 := n2_
  have HB := n3_
  clear n0_ n1_ n2_ n3_
  (try clear hb)
  (try clear hb2)
  (try clear hk)
  (try clear hi)
  refine hK.out _ _ ⟨(blk_cell BK238.out 0).trans rfl, (blk_cell BK238.out 1).trans rfl, (blk_cell BK238.out 2).trans rfl, (blk_cell BK239.out 0).trans rfl, (blk_cell BK239.out 1).trans rfl, (blk_cell BK239.out 2).trans rfl, (blk_cell BK240.out 0).trans rfl, (blk_cell BK240.out 1).trans rfl, (blk_cell BK240.out 2).trans rfl⟩ (fun hHeld => ?_)
  clear hK K
  refine norm_ (a' := ?_) ?_ ?_
  rotate_left
  · show Act.put _ (some 20) _ = _
    simp only [Act.put, List.setIfInBounds_toArray, List.set_cons_zero, List.set_cons_succ, i64_w, i32_w]
    rfl
  refine one_ (i := 5) (N := some 23) #[true, true, true, true, true, true, true, true, false, false, false, false] rfl rfl (one_of HT_.out (by kernel_rfl)) (by decide) (fun K hK => ?_)
  refine goes_ Tryd.func11 (by kernel_rfl) rfl #[.agg #[.int .u8 a1_0, .int .i64 a1_1, .string a1_2], .agg #[.int .u8 a2_0, .int .i64 a2_1, .string a2_2]] (by rfl) rfl rfl (by (try simp only [List.map_toArray, List.map_cons, List.map_nil]); first | done | rfl | (simp only [List.length_drop, List.length_take]; rfl)) ?_
  with_reducible refine (value_Order.calls a1_0 a1_1 a1_2 a2_0 a2_1 a2_2 t242 _ A5.out).mono ?_
  rintro e w13 ⟨rfl, hb⟩
  refine ⟨_, rfl, ?_⟩
  have n0_ := Aside0.mk (blk_below (g := gb238) (o := .cells #[.int .u8 a0_0, .int .i64 a0_1, .string a0_2] 25 (0, 0)) (by (with_reducible repeat (first | refine blk_drewN ?_ _ | refine blk_drew ?_ | refine blk_alloc ?_ _)); exact BK238.out) hb)
  have n1_ := Aside0.mk (blk_below (g := gb239) (o := .cells #[.int .u8 a1_0, .int .i64 a1_1, .string a1_2] 25 (0, 0)) (by (with_reducible repeat (first | refine blk_drewN ?_ _ | refine blk_drew ?_ | refine blk_alloc ?_ _)); exact BK239.out) hb)
  have n2_ := Aside0.mk (blk_below (g := gb240) (o := .cells #[.int .u8 a2_0, .int .i64 a2_1, .string a2_2] 25 (0, 0)) (by (with_reducible repeat (first | refine blk_drewN ?_ _ | refine blk_drew ?_ | refine blk_alloc ?_ _)); exact BK240.out) hb)
  have n3_ := Aside0.mk (below_step (by repeat (first | (with_reducible first | exact HB.out | apply below_alloc | apply pw_below_drewN | apply below_drew1 | refine below_set ?_ GE238.out | refine below_set ?_ GE239.out | refine below_set ?_ GE240.out) | exact HB.out)) hb)
  clear BK238
  clear BK239
  clear BK240
  clear HB
  have BK238 := n0_
  have BK239 := n1_
  have BK240 := n2_
  have HB := n3_
  clear n0_ n1_ n2_ n3_
  (try clear hb)
  (try clear hb2)
  (try clear hk)
  (try clear hi)
  refine hK.out _ _ ⟨(blk_cell BK238.out 0).trans rfl, (blk_cell BK238.out 1).trans rfl, (blk_cell BK238.out 2).trans rfl, (blk_cell BK239.out 0).trans rfl, (blk_cell BK239.out 1).trans rfl, (blk_cell BK239.out 2).trans rfl, (blk_cell BK240.out 0).trans rfl, (blk_cell BK240.out 1).trans rfl, (blk_cell BK240.out 2).trans rfl⟩ (fun hHeld => ?_)
  clear hK K
  refine norm_ (a' := ?_) ?_ ?_
  rotate_left
  · show Act.put _ (some 23) _ = _
    simp only [Act.put, List.setIfInBounds_toArray, List.set_cons_zero, List.set_cons_succ, i64_w, i32_w]
    rfl
  refine one_ (i := 8) (N := some 26) #[true, true, true, true, true, true, true, true, true, false, false, false] rfl rfl (one_of HT_.out (by kernel_rfl)) (by decide) (fun K hK => ?_)
  refine goes_ Tryd.func11 (by kernel_rfl) rfl #[.agg #[.int .u8 a0_0, .int .i64 a0_1, .string a0_2], .agg #[.int .u8 a2_0, .int .i64 a2_1, .string a2_2]] (by rfl) rfl rfl (by (try simp only [List.map_toArray, List.map_cons, List.map_nil]); first | done | rfl | (simp only [List.length_drop, List.length_take]; rfl)) ?_
  with_reducible refine (value_Order.calls a0_0 a0_1 a0_2 a2_0 a2_1 a2_2 t243 _ A6.out).mono ?_
  rintro e w14 ⟨rfl, hb⟩
  refine ⟨_, rfl, ?_⟩
  have n0_ := Aside0.mk (blk_below (g := gb238) (o := .cells #[.int .u8 a0_0, .int .i64 a0_1, .string a0_2] 25 (0, 0)) (by (with_reducible repeat (first | refine blk_drewN ?_ _ | refine blk_drew ?_ | refine blk_alloc ?_ _)); exact BK238.out) hb)
  have n1_ := Aside0.mk (blk_below (g := gb239) (o := .cells #[.int .u8 a1_0, .int .i64 a1_1, .string a1_2] 25 (0, 0)) (by (with_reducible repeat (first | refine blk_drewN ?_ _ | refine blk_drew ?_ | refine blk_alloc ?_ _)); exact BK239.out) hb)
  have n2_ := Aside0.mk (blk_below (g := gb240) (o := .cells #[.int .u8 a2_0, .int .i64 a2_1, .string a2_2] 25 (0, 0)) (by (with_reducible repeat (first | refine blk_drewN ?_ _ | refine blk_drew ?_ | refine blk_alloc ?_ _)); exact BK240.out) hb)
  have n3_ := Aside0.mk (below_step (by repeat (first | (with_reducible first | exact HB.out | apply below_alloc | apply pw_below_drewN | apply below_drew1 | refine below_set ?_ GE238.out | refine below_set ?_ GE239.out | refine below_set ?_ GE240.out) | exact HB.out)) hb)
  clear BK238
  clear BK239
  clear BK240
  clear HB
  have BK238 := n0_
  have BK239 := n1_
  have BK240 := n2_
  have HB := n3_
  clear n0_ n1_ n2_ n3_
  (try clear hb)
  (try clear hb2)
  (try clear hk)
  (try clear hi)
  refine hK.out _ _ ⟨(blk_cell BK238.out 0).trans rfl, (blk_cell BK238.out 1).trans rfl, (blk_cell BK238.out 2).trans rfl, (blk_cell BK239.out 0).trans rfl, (blk_cell BK239.out 1).trans rfl, (blk_cell BK239.out 2).trans rfl, (blk_cell BK240.out 0).trans rfl, (blk_cell BK240.out 1).trans rfl, (blk_cell BK240.out 2).trans rfl⟩ (fun hHeld => ?_)
  clear hK K
  refine norm_ (a' := ?_) ?_ ?_
  rotate_left
  · show Act.put _ (some 26) _ = _
    simp only [Act.put, List.setIfInBounds_toArray, List.set_cons_zero, List.set_cons_succ, i64_w, i32_w]
    rfl
  refine pure_ (i := 9) (N := some 7) (v := ?_) (a' := ?_) #[true, true, true, true, true, true, true, true, true, true, false, false] rfl rfl (any_of HT_.out (by kernel_rfl)) (fun _ _ _ h => h) (Or.inl ⟨by rfl, ?_⟩) ?_ ?_
  rotate_left
  · intro w'
    go_simp
    with_reducible rfl
  rotate_left
  · simp only [Act.put, List.setIfInBounds_toArray, List.set_cons_zero, List.set_cons_succ, i64_w, i32_w]
    rfl
  refine pure_ (i := 10) (N := some 8) (v := ?_) (a' := ?_) #[true, true, true, true, true, true, true, true, true, true, true, false] rfl rfl (any_of HT_.out (by kernel_rfl)) (fun _ _ _ h => h) (Or.inl ⟨by rfl, ?_⟩) ?_ ?_
  rotate_left
  · intro w'
    go_simp
    with_reducible rfl
  rotate_left
  · simp only [Act.put, List.setIfInBounds_toArray, List.set_cons_zero, List.set_cons_succ, i64_w, i32_w]
    rfl
  refine pure_ (i := 11) (N := some 9) (v := ?_) (a' := ?_) #[true, true, true, true, true, true, true, true, true, true, true, true] rfl rfl (any_of HT_.out (by kernel_rfl)) (fun _ _ _ h => h) (Or.inl ⟨by rfl, ?_⟩) ?_ ?_
  rotate_left
  · intro w'
    go_simp
    with_reducible rfl
  rotate_left
  · simp only [Act.put, List.setIfInBounds_toArray, List.set_cons_zero, List.set_cons_succ, i64_w, i32_w]
    rfl
  refine done_ (done_of HT_.out (by kernel_rfl)) ?_
  go_upto_region 2 with (fail)
  go_cut [65] (fun v65 wc => ∃ (kq : Nat) (x65_6 : Bool), v65 = .bool x65_6 ∧ Aside0 (chancerylaw17_ValueOrder.j0 kq x65_6 a0_0 a0_1 a0_2 a1_0 a1_1 a1_2 = some r) ∧ Aside0 (kq ≤ k) ∧ Aside0 (wc.heap[gb238]? = some (.cells #[.int .u8 a0_0, .int .i64 a0_1, .string a0_2] 25 (0, 0))) ∧ Aside0 (wc.heap[gb239]? = some (.cells #[.int .u8 a1_0, .int .i64 a1_1, .string a1_2] 25 (0, 0))) ∧ Aside0 (wc.heap[gb240]? = some (.cells #[.int .u8 a2_0, .int .i64 a2_1, .string a2_2] 25 (0, 0))) ∧ Aside0 (Below w.heap.size w wc))
  case first =>
    have H := HC7.out
    clear HC7
    replace H := Option.bind_eq_some_iff.mp H
    obtain ⟨t244, A150, H⟩ := H
    replace H : (if t244 = (wrap64 (-t241)) then (if t241 ≤ 0 then (if t242 ≤ 0 then (if t243 > 0 then (chancerylaw17_ValueOrder.j0 k true a0_0 a0_1 a0_2 a1_0 a1_1 a1_2) else (if t241 = 0 then (if (!(a0_0 == a1_0) || (!(a0_1 == a1_1) || (!(a0_2.toList == a1_2.toList)))) = true then (chancerylaw17_ValueOrder.j0 k true a0_0 a0_1 a0_2 a1_0 a1_1 a1_2) else (if t241 < 0 then (chancerylaw17_ValueOrder.j0 k (decide (t243 ≥ 0)) a0_0 a0_1 a0_2 a1_0 a1_1 a1_2) else (chancerylaw17_ValueOrder.j0 k false a0_0 a0_1 a0_2 a1_0 a1_1 a1_2))) else (if t241 < 0 then (chancerylaw17_ValueOrder.j0 k (decide (t243 ≥ 0)) a0_0 a0_1 a0_2 a1_0 a1_1 a1_2) else (chancerylaw17_ValueOrder.j0 k false a0_0 a0_1 a0_2 a1_0 a1_1 a1_2)))) else (if t241 = 0 then (if (!(a0_0 == a1_0) || (!(a0_1 == a1_1) || (!(a0_2.toList == a1_2.toList)))) = true then (chancerylaw17_ValueOrder.j0 k true a0_0 a0_1 a0_2 a1_0 a1_1 a1_2) else (if t241 < 0 then (chancerylaw17_ValueOrder.j0 k false a0_0 a0_1 a0_2 a1_0 a1_1 a1_2) else (chancerylaw17_ValueOrder.j0 k false a0_0 a0_1 a0_2 a1_0 a1_1 a1_2))) else (if t241 < 0 then (chancerylaw17_ValueOrder.j0 k false a0_0 a0_1 a0_2 a1_0 a1_1 a1_2) else (chancerylaw17_ValueOrder.j0 k false a0_0 a0_1 a0_2 a1_0 a1_1 a1_2)))) else (if t241 = 0 then (if (!(a0_0 == a1_0) || (!(a0_1 == a1_1) || (!(a0_2.toList == a1_2.toList)))) = true then (chancerylaw17_ValueOrder.j0 k true a0_0 a0_1 a0_2 a1_0 a1_1 a1_2) else (if t241 < 0 then (if t242 ≤ 0 then (chancerylaw17_ValueOrder.j0 k (decide (t243 ≥ 0)) a0_0 a0_1 a0_2 a1_0 a1_1 a1_2) else (chancerylaw17_ValueOrder.j0 k false a0_0 a0_1 a0_2 a1_0 a1_1 a1_2)) else (chancerylaw17_ValueOrder.j0 k false a0_0 a0_1 a0_2 a1_0 a1_1 a1_2))) else (if t241 < 0 then (if t242 ≤ 0 then (chancerylaw17_ValueOrder.j0 k (decide (t243 ≥ 0)) a0_0 a0_1 a0_2 a1_0 a1_1 a1_2) else (chancerylaw17_ValueOrder.j0 k false a0_0 a0_1 a0_2 a1_0 a1_1 a1_2)) else (chancerylaw17_ValueOrder.j0 k false a0_0 a0_1 a0_2 a1_0 a1_1 a1_2)))) else (chancerylaw17_ValueOrder.j0 k true a0_0 a0_1 a0_2 a1_0 a1_1 a1_2)) = some r := H
    have A15 := Aside0.mk A150
    clear A150
    by_cases c16 : t244 = (wrap64 (-t241))
    · rw [if_pos c16] at H
      have c16b0 : (t244 == (wrap64 (-t241))) = true := beq_iff_eq.mpr c16
      have c16b1 : (t244 != (wrap64 (-t241))) = false := bne_eq_false_iff_eq.mpr c16
      clear c16
      (first | rw [c16b0] | (simp only [i64_w, i32_w]; rw [c16b0]) | skip)
      by_cases c17 : t241 ≤ 0
      · rw [if_pos c17] at H
        have c17b0 : decide (t241 ≤ 0) = true := decide_eq_true c17
        clear c17
        by_cases c18 : t242 ≤ 0
        · rw [if_pos c18] at H
          have c18b0 : decide (t242 ≤ 0) = true := decide_eq_true c18
          clear c18
          by_cases c19 : t243 > 0
          · rw [if_pos c19] at H
            have c19b0 : decide (0 < t243) = true := decide_eq_true c19
            clear c19
            have H' := Aside0.mk H
            clear H
            have hnb20 := NB239_238.out
            have hnc20 := NB238_239.out
            have hnb21 := NB239_240.out
            have hnc21 := NB240_239.out
            have hcz22_0 : w14.cell? ⟨gb239, 0, none⟩ = some (.int .u8 a1_0) := (blk_cell BK239.out 0).trans rfl
            have hcz22_1 : w14.cell? ⟨gb239, 1, none⟩ = some (.int .i64 a1_1) := (blk_cell BK239.out 1).trans rfl
            have hcz22_2 : w14.cell? ⟨gb239, 2, none⟩ = some (.string a1_2) := (blk_cell BK239.out 2).trans rfl
            have hfz22_0 := blk_frozen BK239.out 0
            have hfz22_1 := blk_frozen BK239.out 1
            have hfz22_2 := blk_frozen BK239.out 2
            have hnb23 := NB238_240.out
            have hnc23 := NB240_238.out
            have hcz24_0 : w14.cell? ⟨gb238, 0, none⟩ = some (.int .u8 a0_0) := (blk_cell BK238.out 0).trans rfl
            have hcz24_1 : w14.cell? ⟨gb238, 1, none⟩ = some (.int .i64 a0_1) := (blk_cell BK238.out 1).trans rfl
            have hcz24_2 : w14.cell? ⟨gb238, 2, none⟩ = some (.string a0_2) := (blk_cell BK238.out 2).trans rfl
            have hfz24_0 := blk_frozen BK238.out 0
            have hfz24_1 := blk_frozen BK238.out 1
            have hfz24_2 := blk_frozen BK238.out 2
            go_wp2_with (first | ((with_reducible refine gate_callee (f := 11) rfl ?_); refine goesL_ (some 29) rfl rfl Tryd.func11 (by kernel_rfl) rfl #[.agg #[.int .u8 a1_0, .int .i64 a1_1, .string a1_2], .agg #[.int .u8 a0_0, .int .i64 a0_1, .string a0_2]] rfl (by (try simp only [List.map_toArray, List.map_cons, List.map_nil]); first | done | rfl | (simp only [List.length_drop, List.length_take]; rfl)) ?_; (with_reducible refine (value_Order.calls a1_0 a1_1 a1_2 a0_0 a0_1 a0_2 t244 _ A15.out).mono ?_); rintro e w25 ⟨rfl, hb⟩; refine ⟨_, rfl, ?_⟩; have n0_ := Aside0.mk (blk_below (g := gb238) (o := .cells #[.int .u8 a0_0, .int .i64 a0_1, .string a0_2] 25 (0, 0)) (by (with_reducible repeat (first | refine blk_drewN ?_ _ | refine blk_drew ?_ | refine blk_alloc ?_ _)); exact BK238.out) hb); have n1_ := Aside0.mk (blk_below (g := gb239) (o := .cells #[.int .u8 a1_0, .int .i64 a1_1, .string a1_2] 25 (0, 0)) (by (with_reducible repeat (first | refine blk_drewN ?_ _ | refine blk_drew ?_ | refine blk_alloc ?_ _)); exact BK239.out) hb); have n2_ := Aside0.mk (blk_below (g := gb240) (o := .cells #[.int .u8 a2_0, .int .i64 a2_1, .string a2_2] 25 (0, 0)) (by (with_reducible repeat (first | refine blk_drewN ?_ _ | refine blk_drew ?_ | refine blk_alloc ?_ _)); exact BK240.out) hb); have n3_ := Aside0.mk (below_step (by repeat (first | (with_reducible first | exact HB.out | apply below_alloc | apply pw_below_drewN | apply below_drew1 | refine below_set ?_ GE238.out | refine below_set ?_ GE239.out | refine below_set ?_ GE240.out) | exact HB.out)) hb); clear BK238; clear BK239; clear BK240; clear HB; have BK238 := n0_; have BK239 := n1_; have BK240 := n2_; have HB := n3_; clear n0_ n1_ n2_ n3_; (try clear hb); (try clear hb2); (try clear hk); (try clear hi)))
            go_meet
            case rel => exact ⟨_, (true), (by first | rfl | (simp; done) | (simp [*]; done)), H', ⟨by first | omega | exact Nat.le_refl _⟩, ⟨by (with_reducible repeat (first | refine blk_drewN ?_ _ | refine blk_drew ?_ | refine blk_alloc ?_ _)); exact BK238.out⟩, ⟨by (with_reducible repeat (first | refine blk_drewN ?_ _ | refine blk_drew ?_ | refine blk_alloc ?_ _)); exact BK239.out⟩, ⟨by (with_reducible repeat (first | refine blk_drewN ?_ _ | refine blk_drew ?_ | refine blk_alloc ?_ _)); exact BK240.out⟩, ⟨by repeat (first | (with_reducible first | exact HB.out | apply below_alloc | apply pw_below_drewN | apply below_drew1 | refine below_set ?_ GE238.out | refine below_set ?_ GE239.out | refine below_set ?_ GE240.out) | exact HB.out)⟩⟩
          · rw [if_neg c19] at H
            have c19b0 : decide (0 < t243) = false := decide_eq_false c19
            clear c19
            by_cases c26 : t241 = 0
            · rw [if_pos c26] at H
              have c26b0 : (t241 == 0) = true := beq_iff_eq.mpr c26
              have c26b1 : (t241 != 0) = false := bne_eq_false_iff_eq.mpr c26
              clear c26
              by_cases c27 : (!(a0_0 == a1_0) || (!(a0_1 == a1_1) || (!(a0_2.toList == a1_2.toList)))) = true
              · rw [if_pos c27] at H
                have c27b0 : (!(a0_0 == a1_0) || (!(a0_1 == a1_1) || (!(a0_2.toList == a1_2.toList)))) = true := c27
                clear c27
                have H' := Aside0.mk H
                clear H
                have hnb28 := NB239_238.out
                have hnc28 := NB238_239.out
                have hnb29 := NB239_240.out
                have hnc29 := NB240_239.out
                have hcz30_0 : w14.cell? ⟨gb239, 0, none⟩ = some (.int .u8 a1_0) := (blk_cell BK239.out 0).trans rfl
                have hcz30_1 : w14.cell? ⟨gb239, 1, none⟩ = some (.int .i64 a1_1) := (blk_cell BK239.out 1).trans rfl
                have hcz30_2 : w14.cell? ⟨gb239, 2, none⟩ = some (.string a1_2) := (blk_cell BK239.out 2).trans rfl
                have hfz30_0 := blk_frozen BK239.out 0
                have hfz30_1 := blk_frozen BK239.out 1
                have hfz30_2 := blk_frozen BK239.out 2
                have hnb31 := NB238_240.out
                have hnc31 := NB240_238.out
                have hcz32_0 : w14.cell? ⟨gb238, 0, none⟩ = some (.int .u8 a0_0) := (blk_cell BK238.out 0).trans rfl
                have hcz32_1 : w14.cell? ⟨gb238, 1, none⟩ = some (.int .i64 a0_1) := (blk_cell BK238.out 1).trans rfl
                have hcz32_2 : w14.cell? ⟨gb238, 2, none⟩ = some (.string a0_2) := (blk_cell BK238.out 2).trans rfl
                have hfz32_0 := blk_frozen BK238.out 0
                have hfz32_1 := blk_frozen BK238.out 1
                have hfz32_2 := blk_frozen BK238.out 2
                go_wp2_with (first | ((with_reducible refine gate_callee (f := 11) rfl ?_); refine goesL_ (some 29) rfl rfl Tryd.func11 (by kernel_rfl) rfl #[.agg #[.int .u8 a1_0, .int .i64 a1_1, .string a1_2], .agg #[.int .u8 a0_0, .int .i64 a0_1, .string a0_2]] rfl (by (try simp only [List.map_toArray, List.map_cons, List.map_nil]); first | done | rfl | (simp only [List.length_drop, List.length_take]; rfl)) ?_; (with_reducible refine (value_Order.calls a1_0 a1_1 a1_2 a0_0 a0_1 a0_2 t244 _ A15.out).mono ?_); rintro e w33 ⟨rfl, hb⟩; refine ⟨_, rfl, ?_⟩; have n0_ := Aside0.mk (blk_below (g := gb238) (o := .cells #[.int .u8 a0_0, .int .i64 a0_1, .string a0_2] 25 (0, 0)) (by (with_reducible repeat (first | refine blk_drewN ?_ _ | refine blk_drew ?_ | refine blk_alloc ?_ _)); exact BK238.out) hb); have n1_ := Aside0.mk (blk_below (g := gb239) (o := .cells #[.int .u8 a1_0, .int .i64 a1_1, .string a1_2] 25 (0, 0)) (by (with_reducible repeat (first | refine blk_drewN ?_ _ | refine blk_drew ?_ | refine blk_alloc ?_ _)); exact BK239.out) hb); have n2_ := Aside0.mk (blk_below (g := gb240) (o := .cells #[.int .u8 a2_0, .int .i64 a2_1, .string a2_2] 25 (0, 0)) (by (with_reducible repeat (first | refine blk_drewN ?_ _ | refine blk_drew ?_ | refine blk_alloc ?_ _)); exact BK240.out) hb); have n3_ := Aside0.mk (below_step (by repeat (first | (with_reducible first | exact HB.out | apply below_alloc | apply pw_below_drewN | apply below_drew1 | refine below_set ?_ GE238.out | refine below_set ?_ GE239.out | refine below_set ?_ GE240.out) | exact HB.out)) hb); clear BK238; clear BK239; clear BK240; clear HB; have BK238 := n0_; have BK239 := n1_; have BK240 := n2_; have HB := n3_; clear n0_ n1_ n2_ n3_; (try clear hb); (try clear hb2); (try clear hk); (try clear hi); have hcz34_0 : w33.cell? ⟨gb238, 0, none⟩ = some (.int .u8 a0_0) := (blk_cell BK238.out 0).trans rfl; have hcz34_1 : w33.cell? ⟨gb238, 1, none⟩ = some (.int .i64 a0_1) := (blk_cell BK238.out 1).trans rfl; have hcz34_2 : w33.cell? ⟨gb238, 2, none⟩ = some (.string a0_2) := (blk_cell BK238.out 2).trans rfl; have hfz34_0 := blk_frozen BK238.out 0; have hfz34_1 := blk_frozen BK238.out 1; have hfz34_2 := blk_frozen BK238.out 2; have hcz35_0 : w33.cell? ⟨gb239, 0, none⟩ = some (.int .u8 a1_0) := (blk_cell BK239.out 0).trans rfl; have hcz35_1 : w33.cell? ⟨gb239, 1, none⟩ = some (.int .i64 a1_1) := (blk_cell BK239.out 1).trans rfl; have hcz35_2 : w33.cell? ⟨gb239, 2, none⟩ = some (.string a1_2) := (blk_cell BK239.out 2).trans rfl; have hfz35_0 := blk_frozen BK239.out 0; have hfz35_1 := blk_frozen BK239.out 1; have hfz35_2 := blk_frozen BK239.out 2))
                go_meet
                case rel => exact ⟨_, (true), (by first | rfl | (simp; done) | (simp [*]; done)), H', ⟨by first | omega | exact Nat.le_refl _⟩, ⟨by (with_reducible repeat (first | refine blk_drewN ?_ _ | refine blk_drew ?_ | refine blk_alloc ?_ _)); exact BK238.out⟩, ⟨by (with_reducible repeat (first | refine blk_drewN ?_ _ | refine blk_drew ?_ | refine blk_alloc ?_ _)); exact BK239.out⟩, ⟨by (with_reducible repeat (first | refine blk_drewN ?_ _ | refine blk_drew ?_ | refine blk_alloc ?_ _)); exact BK240.out⟩, ⟨by repeat (first | (with_reducible first | exact HB.out | apply below_alloc | apply pw_below_drewN | apply below_drew1 | refine below_set ?_ GE238.out | refine below_set ?_ GE239.out | refine below_set ?_ GE240.out) | exact HB.out)⟩⟩
              · rw [if_neg c27] at H
                have c27b0 : (!(a0_0 == a1_0) || (!(a0_1 == a1_1) || (!(a0_2.toList == a1_2.toList)))) = false := by simpa using c27
                clear c27
                by_cases c36 : t241 < 0
                · rw [if_pos c36] at H
                  have c36b0 : decide (t241 < 0) = true := decide_eq_true c36
                  clear c36
                  have H' := Aside0.mk H
                  clear H
                  have hnb37 := NB239_238.out
                  have hnc37 := NB238_239.out
                  have hnb38 := NB239_240.out
                  have hnc38 := NB240_239.out
                  have hcz39_0 : w14.cell? ⟨gb239, 0, none⟩ = some (.int .u8 a1_0) := (blk_cell BK239.out 0).trans rfl
                  have hcz39_1 : w14.cell? ⟨gb239, 1, none⟩ = some (.int .i64 a1_1) := (blk_cell BK239.out 1).trans rfl
                  have hcz39_2 : w14.cell? ⟨gb239, 2, none⟩ = some (.string a1_2) := (blk_cell BK239.out 2).trans rfl
                  have hfz39_0 := blk_frozen BK239.out 0
                  have hfz39_1 := blk_frozen BK239.out 1
                  have hfz39_2 := blk_frozen BK239.out 2
                  have hnb40 := NB238_240.out
                  have hnc40 := NB240_238.out
                  have hcz41_0 : w14.cell? ⟨gb238, 0, none⟩ = some (.int .u8 a0_0) := (blk_cell BK238.out 0).trans rfl
                  have hcz41_1 : w14.cell? ⟨gb238, 1, none⟩ = some (.int .i64 a0_1) := (blk_cell BK238.out 1).trans rfl
                  have hcz41_2 : w14.cell? ⟨gb238, 2, none⟩ = some (.string a0_2) := (blk_cell BK238.out 2).trans rfl
                  have hfz41_0 := blk_frozen BK238.out 0
                  have hfz41_1 := blk_frozen BK238.out 1
                  have hfz41_2 := blk_frozen BK238.out 2
                  go_wp2_with (first | ((with_reducible refine gate_callee (f := 11) rfl ?_); refine goesL_ (some 29) rfl rfl Tryd.func11 (by kernel_rfl) rfl #[.agg #[.int .u8 a1_0, .int .i64 a1_1, .string a1_2], .agg #[.int .u8 a0_0, .int .i64 a0_1, .string a0_2]] rfl (by (try simp only [List.map_toArray, List.map_cons, List.map_nil]); first | done | rfl | (simp only [List.length_drop, List.length_take]; rfl)) ?_; (with_reducible refine (value_Order.calls a1_0 a1_1 a1_2 a0_0 a0_1 a0_2 t244 _ A15.out).mono ?_); rintro e w42 ⟨rfl, hb⟩; refine ⟨_, rfl, ?_⟩; have n0_ := Aside0.mk (blk_below (g := gb238) (o := .cells #[.int .u8 a0_0, .int .i64 a0_1, .string a0_2] 25 (0, 0)) (by (with_reducible repeat (first | refine blk_drewN ?_ _ | refine blk_drew ?_ | refine blk_alloc ?_ _)); exact BK238.out) hb); have n1_ := Aside0.mk (blk_below (g := gb239) (o := .cells #[.int .u8 a1_0, .int .i64 a1_1, .string a1_2] 25 (0, 0)) (by (with_reducible repeat (first | refine blk_drewN ?_ _ | refine blk_drew ?_ | refine blk_alloc ?_ _)); exact BK239.out) hb); have n2_ := Aside0.mk (blk_below (g := gb240) (o := .cells #[.int .u8 a2_0, .int .i64 a2_1, .string a2_2] 25 (0, 0)) (by (with_reducible repeat (first | refine blk_drewN ?_ _ | refine blk_drew ?_ | refine blk_alloc ?_ _)); exact BK240.out) hb); have n3_ := Aside0.mk (below_step (by repeat (first | (with_reducible first | exact HB.out | apply below_alloc | apply pw_below_drewN | apply below_drew1 | refine below_set ?_ GE238.out | refine below_set ?_ GE239.out | refine below_set ?_ GE240.out) | exact HB.out)) hb); clear BK238; clear BK239; clear BK240; clear HB; have BK238 := n0_; have BK239 := n1_; have BK240 := n2_; have HB := n3_; clear n0_ n1_ n2_ n3_; (try clear hb); (try clear hb2); (try clear hk); (try clear hi); have hcz43_0 : w42.cell? ⟨gb238, 0, none⟩ = some (.int .u8 a0_0) := (blk_cell BK238.out 0).trans rfl; have hcz43_1 : w42.cell? ⟨gb238, 1, none⟩ = some (.int .i64 a0_1) := (blk_cell BK238.out 1).trans rfl; have hcz43_2 : w42.cell? ⟨gb238, 2, none⟩ = some (.string a0_2) := (blk_cell BK238.out 2).trans rfl; have hfz43_0 := blk_frozen BK238.out 0; have hfz43_1 := blk_frozen BK238.out 1; have hfz43_2 := blk_frozen BK238.out 2; have hcz44_0 : w42.cell? ⟨gb239, 0, none⟩ = some (.int .u8 a1_0) := (blk_cell BK239.out 0).trans rfl; have hcz44_1 : w42.cell? ⟨gb239, 1, none⟩ = some (.int .i64 a1_1) := (blk_cell BK239.out 1).trans rfl; have hcz44_2 : w42.cell? ⟨gb239, 2, none⟩ = some (.string a1_2) := (blk_cell BK239.out 2).trans rfl; have hfz44_0 := blk_frozen BK239.out 0; have hfz44_1 := blk_frozen BK239.out 1; have hfz44_2 := blk_frozen BK239.out 2))
                  go_meet
                  case rel => exact ⟨_, (decide (t243 ≥ 0)), (by first | rfl | (simp; done) | (simp [*]; done)), H', ⟨by first | omega | exact Nat.le_refl _⟩, ⟨by (with_reducible repeat (first | refine blk_drewN ?_ _ | refine blk_drew ?_ | refine blk_alloc ?_ _)); exact BK238.out⟩, ⟨by (with_reducible repeat (first | refine blk_drewN ?_ _ | refine blk_drew ?_ | refine blk_alloc ?_ _)); exact BK239.out⟩, ⟨by (with_reducible repeat (first | refine blk_drewN ?_ _ | refine blk_drew ?_ | refine blk_alloc ?_ _)); exact BK240.out⟩, ⟨by repeat (first | (with_reducible first | exact HB.out | apply below_alloc | apply pw_below_drewN | apply below_drew1 | refine below_set ?_ GE238.out | refine below_set ?_ GE239.out | refine below_set ?_ GE240.out) | exact HB.out)⟩⟩
                · rw [if_neg c36] at H
                  have c36b0 : decide (t241 < 0) = false := decide_eq_false c36
                  clear c36
                  have H' := Aside0.mk H
                  clear H
                  have hnb45 := NB239_238.out
                  have hnc45 := NB238_239.out
                  have hnb46 := NB239_240.out
                  have hnc46 := NB240_239.out
                  have hcz47_0 : w14.cell? ⟨gb239, 0, none⟩ = some (.int .u8 a1_0) := (blk_cell BK239.out 0).trans rfl
                  have hcz47_1 : w14.cell? ⟨gb239, 1, none⟩ = some (.int .i64 a1_1) := (blk_cell BK239.out 1).trans rfl
                  have hcz47_2 : w14.cell? ⟨gb239, 2, none⟩ = some (.string a1_2) := (blk_cell BK239.out 2).trans rfl
                  have hfz47_0 := blk_frozen BK239.out 0
                  have hfz47_1 := blk_frozen BK239.out 1
                  have hfz47_2 := blk_frozen BK239.out 2
                  have hnb48 := NB238_240.out
                  have hnc48 := NB240_238.out
                  have hcz49_0 : w14.cell? ⟨gb238, 0, none⟩ = some (.int .u8 a0_0) := (blk_cell BK238.out 0).trans rfl
                  have hcz49_1 : w14.cell? ⟨gb238, 1, none⟩ = some (.int .i64 a0_1) := (blk_cell BK238.out 1).trans rfl
                  have hcz49_2 : w14.cell? ⟨gb238, 2, none⟩ = some (.string a0_2) := (blk_cell BK238.out 2).trans rfl
                  have hfz49_0 := blk_frozen BK238.out 0
                  have hfz49_1 := blk_frozen BK238.out 1
                  have hfz49_2 := blk_frozen BK238.out 2
                  go_wp2_with (first | ((with_reducible refine gate_callee (f := 11) rfl ?_); refine goesL_ (some 29) rfl rfl Tryd.func11 (by kernel_rfl) rfl #[.agg #[.int .u8 a1_0, .int .i64 a1_1, .string a1_2], .agg #[.int .u8 a0_0, .int .i64 a0_1, .string a0_2]] rfl (by (try simp only [List.map_toArray, List.map_cons, List.map_nil]); first | done | rfl | (simp only [List.length_drop, List.length_take]; rfl)) ?_; (with_reducible refine (value_Order.calls a1_0 a1_1 a1_2 a0_0 a0_1 a0_2 t244 _ A15.out).mono ?_); rintro e w50 ⟨rfl, hb⟩; refine ⟨_, rfl, ?_⟩; have n0_ := Aside0.mk (blk_below (g := gb238) (o := .cells #[.int .u8 a0_0, .int .i64 a0_1, .string a0_2] 25 (0, 0)) (by (with_reducible repeat (first | refine blk_drewN ?_ _ | refine blk_drew ?_ | refine blk_alloc ?_ _)); exact BK238.out) hb); have n1_ := Aside0.mk (blk_below (g := gb239) (o := .cells #[.int .u8 a1_0, .int .i64 a1_1, .string a1_2] 25 (0, 0)) (by (with_reducible repeat (first | refine blk_drewN ?_ _ | refine blk_drew ?_ | refine blk_alloc ?_ _)); exact BK239.out) hb); have n2_ := Aside0.mk (blk_below (g := gb240) (o := .cells #[.int .u8 a2_0, .int .i64 a2_1, .string a2_2] 25 (0, 0)) (by (with_reducible repeat (first | refine blk_drewN ?_ _ | refine blk_drew ?_ | refine blk_alloc ?_ _)); exact BK240.out) hb); have n3_ := Aside0.mk (below_step (by repeat (first | (with_reducible first | exact HB.out | apply below_alloc | apply pw_below_drewN | apply below_drew1 | refine below_set ?_ GE238.out | refine below_set ?_ GE239.out | refine below_set ?_ GE240.out) | exact HB.out)) hb); clear BK238; clear BK239; clear BK240; clear HB; have BK238 := n0_; have BK239 := n1_; have BK240 := n2_; have HB := n3_; clear n0_ n1_ n2_ n3_; (try clear hb); (try clear hb2); (try clear hk); (try clear hi); have hcz51_0 : w50.cell? ⟨gb238, 0, none⟩ = some (.int .u8 a0_0) := (blk_cell BK238.out 0).trans rfl; have hcz51_1 : w50.cell? ⟨gb238, 1, none⟩ = some (.int .i64 a0_1) := (blk_cell BK238.out 1).trans rfl; have hcz51_2 : w50.cell? ⟨gb238, 2, none⟩ = some (.string a0_2) := (blk_cell BK238.out 2).trans rfl; have hfz51_0 := blk_frozen BK238.out 0; have hfz51_1 := blk_frozen BK238.out 1; have hfz51_2 := blk_frozen BK238.out 2; have hcz52_0 : w50.cell? ⟨gb239, 0, none⟩ = some (.int .u8 a1_0) := (blk_cell BK239.out 0).trans rfl; have hcz52_1 : w50.cell? ⟨gb239, 1, none⟩ = some (.int .i64 a1_1) := (blk_cell BK239.out 1).trans rfl; have hcz52_2 : w50.cell? ⟨gb239, 2, none⟩ = some (.string a1_2) := (blk_cell BK239.out 2).trans rfl; have hfz52_0 := blk_frozen BK239.out 0; have hfz52_1 := blk_frozen BK239.out 1; have hfz52_2 := blk_frozen BK239.out 2))
                  go_meet
                  case rel => exact ⟨_, (false), (by first | rfl | (simp; done) | (simp [*]; done)), H', ⟨by first | omega | exact Nat.le_refl _⟩, ⟨by (with_reducible repeat (first | refine blk_drewN ?_ _ | refine blk_drew ?_ | refine blk_alloc ?_ _)); exact BK238.out⟩, ⟨by (with_reducible repeat (first | refine blk_drewN ?_ _ | refine blk_drew ?_ | refine blk_alloc ?_ _)); exact BK239.out⟩, ⟨by (with_reducible repeat (first | refine blk_drewN ?_ _ | refine blk_drew ?_ | refine blk_alloc ?_ _)); exact BK240.out⟩, ⟨by repeat (first | (with_reducible first | exact HB.out | apply below_alloc | apply pw_below_drewN | apply below_drew1 | refine below_set ?_ GE238.out | refine below_set ?_ GE239.out | refine below_set ?_ GE240.out) | exact HB.out)⟩⟩
            · rw [if_neg c26] at H
              have c26b0 : (t241 == 0) = false := beq_eq_false_iff_ne.mpr c26
              have c26b1 : (t241 != 0) = true := bne_iff_ne.mpr c26
              by_cases c53 : t241 < 0
              · rw [if_pos c53] at H
                have c53b0 : decide (t241 < 0) = true := decide_eq_true c53
                clear c53
                have H' := Aside0.mk H
                clear H
                have hnb54 := NB239_238.out
                have hnc54 := NB238_239.out
                have hnb55 := NB239_240.out
                have hnc55 := NB240_239.out
                have hcz56_0 : w14.cell? ⟨gb239, 0, none⟩ = some (.int .u8 a1_0) := (blk_cell BK239.out 0).trans rfl
                have hcz56_1 : w14.cell? ⟨gb239, 1, none⟩ = some (.int .i64 a1_1) := (blk_cell BK239.out 1).trans rfl
                have hcz56_2 : w14.cell? ⟨gb239, 2, none⟩ = some (.string a1_2) := (blk_cell BK239.out 2).trans rfl
                have hfz56_0 := blk_frozen BK239.out 0
                have hfz56_1 := blk_frozen BK239.out 1
                have hfz56_2 := blk_frozen BK239.out 2
                have hnb57 := NB238_240.out
                have hnc57 := NB240_238.out
                have hcz58_0 : w14.cell? ⟨gb238, 0, none⟩ = some (.int .u8 a0_0) := (blk_cell BK238.out 0).trans rfl
                have hcz58_1 : w14.cell? ⟨gb238, 1, none⟩ = some (.int .i64 a0_1) := (blk_cell BK238.out 1).trans rfl
                have hcz58_2 : w14.cell? ⟨gb238, 2, none⟩ = some (.string a0_2) := (blk_cell BK238.out 2).trans rfl
                have hfz58_0 := blk_frozen BK238.out 0
                have hfz58_1 := blk_frozen BK238.out 1
                have hfz58_2 := blk_frozen BK238.out 2
                go_wp2_with (first | ((with_reducible refine gate_callee (f := 11) rfl ?_); refine goesL_ (some 29) rfl rfl Tryd.func11 (by kernel_rfl) rfl #[.agg #[.int .u8 a1_0, .int .i64 a1_1, .string a1_2], .agg #[.int .u8 a0_0, .int .i64 a0_1, .string a0_2]] rfl (by (try simp only [List.map_toArray, List.map_cons, List.map_nil]); first | done | rfl | (simp only [List.length_drop, List.length_take]; rfl)) ?_; (with_reducible refine (value_Order.calls a1_0 a1_1 a1_2 a0_0 a0_1 a0_2 t244 _ A15.out).mono ?_); rintro e w59 ⟨rfl, hb⟩; refine ⟨_, rfl, ?_⟩; have n0_ := Aside0.mk (blk_below (g := gb238) (o := .cells #[.int .u8 a0_0, .int .i64 a0_1, .string a0_2] 25 (0, 0)) (by (with_reducible repeat (first | refine blk_drewN ?_ _ | refine blk_drew ?_ | refine blk_alloc ?_ _)); exact BK238.out) hb); have n1_ := Aside0.mk (blk_below (g := gb239) (o := .cells #[.int .u8 a1_0, .int .i64 a1_1, .string a1_2] 25 (0, 0)) (by (with_reducible repeat (first | refine blk_drewN ?_ _ | refine blk_drew ?_ | refine blk_alloc ?_ _)); exact BK239.out) hb); have n2_ := Aside0.mk (blk_below (g := gb240) (o := .cells #[.int .u8 a2_0, .int .i64 a2_1, .string a2_2] 25 (0, 0)) (by (with_reducible repeat (first | refine blk_drewN ?_ _ | refine blk_drew ?_ | refine blk_alloc ?_ _)); exact BK240.out) hb); have n3_ := Aside0.mk (below_step (by repeat (first | (with_reducible first | exact HB.out | apply below_alloc | apply pw_below_drewN | apply below_drew1 | refine below_set ?_ GE238.out | refine below_set ?_ GE239.out | refine below_set ?_ GE240.out) | exact HB.out)) hb); clear BK238; clear BK239; clear BK240; clear HB; have BK238 := n0_; have BK239 := n1_; have BK240 := n2_; have HB := n3_; clear n0_ n1_ n2_ n3_; (try clear hb); (try clear hb2); (try clear hk); (try clear hi)))
                go_meet
                case rel => exact ⟨_, (decide (t243 ≥ 0)), (by first | rfl | (simp; done) | (simp [*]; done)), H', ⟨by first | omega | exact Nat.le_refl _⟩, ⟨by (with_reducible repeat (first | refine blk_drewN ?_ _ | refine blk_drew ?_ | refine blk_alloc ?_ _)); exact BK238.out⟩, ⟨by (with_reducible repeat (first | refine blk_drewN ?_ _ | refine blk_drew ?_ | refine blk_alloc ?_ _)); exact BK239.out⟩, ⟨by (with_reducible repeat (first | refine blk_drewN ?_ _ | refine blk_drew ?_ | refine blk_alloc ?_ _)); exact BK240.out⟩, ⟨by repeat (first | (with_reducible first | exact HB.out | apply below_alloc | apply pw_below_drewN | apply below_drew1 | refine below_set ?_ GE238.out | refine below_set ?_ GE239.out | refine below_set ?_ GE240.out) | exact HB.out)⟩⟩
              · rw [if_neg c53] at H
                have c53b0 : decide (t241 < 0) = false := decide_eq_false c53
                clear c53
                have H' := Aside0.mk H
                clear H
                have hnb60 := NB239_238.out
                have hnc60 := NB238_239.out
                have hnb61 := NB239_240.out
                have hnc61 := NB240_239.out
                have hcz62_0 : w14.cell? ⟨gb239, 0, none⟩ = some (.int .u8 a1_0) := (blk_cell BK239.out 0).trans rfl
                have hcz62_1 : w14.cell? ⟨gb239, 1, none⟩ = some (.int .i64 a1_1) := (blk_cell BK239.out 1).trans rfl
                have hcz62_2 : w14.cell? ⟨gb239, 2, none⟩ = some (.string a1_2) := (blk_cell BK239.out 2).trans rfl
                have hfz62_0 := blk_frozen BK239.out 0
                have hfz62_1 := blk_frozen BK239.out 1
                have hfz62_2 := blk_frozen BK239.out 2
                have hnb63 := NB238_240.out
                have hnc63 := NB240_238.out
                have hcz64_0 : w14.cell? ⟨gb238, 0, none⟩ = some (.int .u8 a0_0) := (blk_cell BK238.out 0).trans rfl
                have hcz64_1 : w14.cell? ⟨gb238, 1, none⟩ = some (.int .i64 a0_1) := (blk_cell BK238.out 1).trans rfl
                have hcz64_2 : w14.cell? ⟨gb238, 2, none⟩ = some (.string a0_2) := (blk_cell BK238.out 2).trans rfl
                have hfz64_0 := blk_frozen BK238.out 0
                have hfz64_1 := blk_frozen BK238.out 1
                have hfz64_2 := blk_frozen BK238.out 2
                go_wp2_with (first | ((with_reducible refine gate_callee (f := 11) rfl ?_); refine goesL_ (some 29) rfl rfl Tryd.func11 (by kernel_rfl) rfl #[.agg #[.int .u8 a1_0, .int .i64 a1_1, .string a1_2], .agg #[.int .u8 a0_0, .int .i64 a0_1, .string a0_2]] rfl (by (try simp only [List.map_toArray, List.map_cons, List.map_nil]); first | done | rfl | (simp only [List.length_drop, List.length_take]; rfl)) ?_; (with_reducible refine (value_Order.calls a1_0 a1_1 a1_2 a0_0 a0_1 a0_2 t244 _ A15.out).mono ?_); rintro e w65 ⟨rfl, hb⟩; refine ⟨_, rfl, ?_⟩; have n0_ := Aside0.mk (blk_below (g := gb238) (o := .cells #[.int .u8 a0_0, .int .i64 a0_1, .string a0_2] 25 (0, 0)) (by (with_reducible repeat (first | refine blk_drewN ?_ _ | refine blk_drew ?_ | refine blk_alloc ?_ _)); exact BK238.out) hb); have n1_ := Aside0.mk (blk_below (g := gb239) (o := .cells #[.int .u8 a1_0, .int .i64 a1_1, .string a1_2] 25 (0, 0)) (by (with_reducible repeat (first | refine blk_drewN ?_ _ | refine blk_drew ?_ | refine blk_alloc ?_ _)); exact BK239.out) hb); have n2_ := Aside0.mk (blk_below (g := gb240) (o := .cells #[.int .u8 a2_0, .int .i64 a2_1, .string a2_2] 25 (0, 0)) (by (with_reducible repeat (first | refine blk_drewN ?_ _ | refine blk_drew ?_ | refine blk_alloc ?_ _)); exact BK240.out) hb); have n3_ := Aside0.mk (below_step (by repeat (first | (with_reducible first | exact HB.out | apply below_alloc | apply pw_below_drewN | apply below_drew1 | refine below_set ?_ GE238.out | refine below_set ?_ GE239.out | refine below_set ?_ GE240.out) | exact HB.out)) hb); clear BK238; clear BK239; clear BK240; clear HB; have BK238 := n0_; have BK239 := n1_; have BK240 := n2_; have HB := n3_; clear n0_ n1_ n2_ n3_; (try clear hb); (try clear hb2); (try clear hk); (try clear hi)))
                go_meet
                case rel => exact ⟨_, (false), (by first | rfl | (simp; done) | (simp [*]; done)), H', ⟨by first | omega | exact Nat.le_refl _⟩, ⟨by (with_reducible repeat (first | refine blk_drewN ?_ _ | refine blk_drew ?_ | refine blk_alloc ?_ _)); exact BK238.out⟩, ⟨by (with_reducible repeat (first | refine blk_drewN ?_ _ | refine blk_drew ?_ | refine blk_alloc ?_ _)); exact BK239.out⟩, ⟨by (with_reducible repeat (first | refine blk_drewN ?_ _ | refine blk_drew ?_ | refine blk_alloc ?_ _)); exact BK240.out⟩, ⟨by repeat (first | (with_reducible first | exact HB.out | apply below_alloc | apply pw_below_drewN | apply below_drew1 | refine below_set ?_ GE238.out | refine below_set ?_ GE239.out | refine below_set ?_ GE240.out) | exact HB.out)⟩⟩
        · rw [if_neg c18] at H
          have c18b0 : decide (t242 ≤ 0) = false := decide_eq_false c18
          clear c18
          by_cases c66 : t241 = 0
          · rw [if_pos c66] at H
            have c66b0 : (t241 == 0) = true := beq_iff_eq.mpr c66
            have c66b1 : (t241 != 0) = false := bne_eq_false_iff_eq.mpr c66
            clear c66
            by_cases c67 : (!(a0_0 == a1_0) || (!(a0_1 == a1_1) || (!(a0_2.toList == a1_2.toList)))) = true
            · rw [if_pos c67] at H
              have c67b0 : (!(a0_0 == a1_0) || (!(a0_1 == a1_1) || (!(a0_2.toList == a1_2.toList)))) = true := c67
              clear c67
              have H' := Aside0.mk H
              clear H
              have hnb68 := NB239_238.out
              have hnc68 := NB238_239.out
              have hnb69 := NB239_240.out
              have hnc69 := NB240_239.out
              have hcz70_0 : w14.cell? ⟨gb239, 0, none⟩ = some (.int .u8 a1_0) := (blk_cell BK239.out 0).trans rfl
              have hcz70_1 : w14.cell? ⟨gb239, 1, none⟩ = some (.int .i64 a1_1) := (blk_cell BK239.out 1).trans rfl
              have hcz70_2 : w14.cell? ⟨gb239, 2, none⟩ = some (.string a1_2) := (blk_cell BK239.out 2).trans rfl
              have hfz70_0 := blk_frozen BK239.out 0
              have hfz70_1 := blk_frozen BK239.out 1
              have hfz70_2 := blk_frozen BK239.out 2
              have hnb71 := NB238_240.out
              have hnc71 := NB240_238.out
              have hcz72_0 : w14.cell? ⟨gb238, 0, none⟩ = some (.int .u8 a0_0) := (blk_cell BK238.out 0).trans rfl
              have hcz72_1 : w14.cell? ⟨gb238, 1, none⟩ = some (.int .i64 a0_1) := (blk_cell BK238.out 1).trans rfl
              have hcz72_2 : w14.cell? ⟨gb238, 2, none⟩ = some (.string a0_2) := (blk_cell BK238.out 2).trans rfl
              have hfz72_0 := blk_frozen BK238.out 0
              have hfz72_1 := blk_frozen BK238.out 1
              have hfz72_2 := blk_frozen BK238.out 2
              go_wp2_with (first | ((with_reducible refine gate_callee (f := 11) rfl ?_); refine goesL_ (some 29) rfl rfl Tryd.func11 (by kernel_rfl) rfl #[.agg #[.int .u8 a1_0, .int .i64 a1_1, .string a1_2], .agg #[.int .u8 a0_0, .int .i64 a0_1, .string a0_2]] rfl (by (try simp only [List.map_toArray, List.map_cons, List.map_nil]); first | done | rfl | (simp only [List.length_drop, List.length_take]; rfl)) ?_; (with_reducible refine (value_Order.calls a1_0 a1_1 a1_2 a0_0 a0_1 a0_2 t244 _ A15.out).mono ?_); rintro e w73 ⟨rfl, hb⟩; refine ⟨_, rfl, ?_⟩; have n0_ := Aside0.mk (blk_below (g := gb238) (o := .cells #[.int .u8 a0_0, .int .i64 a0_1, .string a0_2] 25 (0, 0)) (by (with_reducible repeat (first | refine blk_drewN ?_ _ | refine blk_drew ?_ | refine blk_alloc ?_ _)); exact BK238.out) hb); have n1_ := Aside0.mk (blk_below (g := gb239) (o := .cells #[.int .u8 a1_0, .int .i64 a1_1, .string a1_2] 25 (0, 0)) (by (with_reducible repeat (first | refine blk_drewN ?_ _ | refine blk_drew ?_ | refine blk_alloc ?_ _)); exact BK239.out) hb); have n2_ := Aside0.mk (blk_below (g := gb240) (o := .cells #[.int .u8 a2_0, .int .i64 a2_1, .string a2_2] 25 (0, 0)) (by (with_reducible repeat (first | refine blk_drewN ?_ _ | refine blk_drew ?_ | refine blk_alloc ?_ _)); exact BK240.out) hb); have n3_ := Aside0.mk (below_step (by repeat (first | (with_reducible first | exact HB.out | apply below_alloc | apply pw_below_drewN | apply below_drew1 | refine below_set ?_ GE238.out | refine below_set ?_ GE239.out | refine below_set ?_ GE240.out) | exact HB.out)) hb); clear BK238; clear BK239; clear BK240; clear HB; have BK238 := n0_; have BK239 := n1_; have BK240 := n2_; have HB := n3_; clear n0_ n1_ n2_ n3_; (try clear hb); (try clear hb2); (try clear hk); (try clear hi); have hcz74_0 : w73.cell? ⟨gb238, 0, none⟩ = some (.int .u8 a0_0) := (blk_cell BK238.out 0).trans rfl; have hcz74_1 : w73.cell? ⟨gb238, 1, none⟩ = some (.int .i64 a0_1) := (blk_cell BK238.out 1).trans rfl; have hcz74_2 : w73.cell? ⟨gb238, 2, none⟩ = some (.string a0_2) := (blk_cell BK238.out 2).trans rfl; have hfz74_0 := blk_frozen BK238.out 0; have hfz74_1 := blk_frozen BK238.out 1; have hfz74_2 := blk_frozen BK238.out 2; have hcz75_0 : w73.cell? ⟨gb239, 0, none⟩ = some (.int .u8 a1_0) := (blk_cell BK239.out 0).trans rfl; have hcz75_1 : w73.cell? ⟨gb239, 1, none⟩ = some (.int .i64 a1_1) := (blk_cell BK239.out 1).trans rfl; have hcz75_2 : w73.cell? ⟨gb239, 2, none⟩ = some (.string a1_2) := (blk_cell BK239.out 2).trans rfl; have hfz75_0 := blk_frozen BK239.out 0; have hfz75_1 := blk_frozen BK239.out 1; have hfz75_2 := blk_frozen BK239.out 2))
              go_meet
              case rel => exact ⟨_, (true), (by first | rfl | (simp; done) | (simp [*]; done)), H', ⟨by first | omega | exact Nat.le_refl _⟩, ⟨by (with_reducible repeat (first | refine blk_drewN ?_ _ | refine blk_drew ?_ | refine blk_alloc ?_ _)); exact BK238.out⟩, ⟨by (with_reducible repeat (first | refine blk_drewN ?_ _ | refine blk_drew ?_ | refine blk_alloc ?_ _)); exact BK239.out⟩, ⟨by (with_reducible repeat (first | refine blk_drewN ?_ _ | refine blk_drew ?_ | refine blk_alloc ?_ _)); exact BK240.out⟩, ⟨by repeat (first | (with_reducible first | exact HB.out | apply below_alloc | apply pw_below_drewN | apply below_drew1 | refine below_set ?_ GE238.out | refine below_set ?_ GE239.out | refine below_set ?_ GE240.out) | exact HB.out)⟩⟩
            · rw [if_neg c67] at H
              have c67b0 : (!(a0_0 == a1_0) || (!(a0_1 == a1_1) || (!(a0_2.toList == a1_2.toList)))) = false := by simpa using c67
              clear c67
              by_cases c76 : t241 < 0
              · rw [if_pos c76] at H
                have c76b0 : decide (t241 < 0) = true := decide_eq_true c76
                clear c76
                have H' := Aside0.mk H
                clear H
                have hnb77 := NB239_238.out
                have hnc77 := NB238_239.out
                have hnb78 := NB239_240.out
                have hnc78 := NB240_239.out
                have hcz79_0 : w14.cell? ⟨gb239, 0, none⟩ = some (.int .u8 a1_0) := (blk_cell BK239.out 0).trans rfl
                have hcz79_1 : w14.cell? ⟨gb239, 1, none⟩ = some (.int .i64 a1_1) := (blk_cell BK239.out 1).trans rfl
                have hcz79_2 : w14.cell? ⟨gb239, 2, none⟩ = some (.string a1_2) := (blk_cell BK239.out 2).trans rfl
                have hfz79_0 := blk_frozen BK239.out 0
                have hfz79_1 := blk_frozen BK239.out 1
                have hfz79_2 := blk_frozen BK239.out 2
                have hnb80 := NB238_240.out
                have hnc80 := NB240_238.out
                have hcz81_0 : w14.cell? ⟨gb238, 0, none⟩ = some (.int .u8 a0_0) := (blk_cell BK238.out 0).trans rfl
                have hcz81_1 : w14.cell? ⟨gb238, 1, none⟩ = some (.int .i64 a0_1) := (blk_cell BK238.out 1).trans rfl
                have hcz81_2 : w14.cell? ⟨gb238, 2, none⟩ = some (.string a0_2) := (blk_cell BK238.out 2).trans rfl
                have hfz81_0 := blk_frozen BK238.out 0
                have hfz81_1 := blk_frozen BK238.out 1
                have hfz81_2 := blk_frozen BK238.out 2
                go_wp2_with (first | ((with_reducible refine gate_callee (f := 11) rfl ?_); refine goesL_ (some 29) rfl rfl Tryd.func11 (by kernel_rfl) rfl #[.agg #[.int .u8 a1_0, .int .i64 a1_1, .string a1_2], .agg #[.int .u8 a0_0, .int .i64 a0_1, .string a0_2]] rfl (by (try simp only [List.map_toArray, List.map_cons, List.map_nil]); first | done | rfl | (simp only [List.length_drop, List.length_take]; rfl)) ?_; (with_reducible refine (value_Order.calls a1_0 a1_1 a1_2 a0_0 a0_1 a0_2 t244 _ A15.out).mono ?_); rintro e w82 ⟨rfl, hb⟩; refine ⟨_, rfl, ?_⟩; have n0_ := Aside0.mk (blk_below (g := gb238) (o := .cells #[.int .u8 a0_0, .int .i64 a0_1, .string a0_2] 25 (0, 0)) (by (with_reducible repeat (first | refine blk_drewN ?_ _ | refine blk_drew ?_ | refine blk_alloc ?_ _)); exact BK238.out) hb); have n1_ := Aside0.mk (blk_below (g := gb239) (o := .cells #[.int .u8 a1_0, .int .i64 a1_1, .string a1_2] 25 (0, 0)) (by (with_reducible repeat (first | refine blk_drewN ?_ _ | refine blk_drew ?_ | refine blk_alloc ?_ _)); exact BK239.out) hb); have n2_ := Aside0.mk (blk_below (g := gb240) (o := .cells #[.int .u8 a2_0, .int .i64 a2_1, .string a2_2] 25 (0, 0)) (by (with_reducible repeat (first | refine blk_drewN ?_ _ | refine blk_drew ?_ | refine blk_alloc ?_ _)); exact BK240.out) hb); have n3_ := Aside0.mk (below_step (by repeat (first | (with_reducible first | exact HB.out | apply below_alloc | apply pw_below_drewN | apply below_drew1 | refine below_set ?_ GE238.out | refine below_set ?_ GE239.out | refine below_set ?_ GE240.out) | exact HB.out)) hb); clear BK238; clear BK239; clear BK240; clear HB; have BK238 := n0_; have BK239 := n1_; have BK240 := n2_; have HB := n3_; clear n0_ n1_ n2_ n3_; (try clear hb); (try clear hb2); (try clear hk); (try clear hi); have hcz83_0 : w82.cell? ⟨gb238, 0, none⟩ = some (.int .u8 a0_0) := (blk_cell BK238.out 0).trans rfl; have hcz83_1 : w82.cell? ⟨gb238, 1, none⟩ = some (.int .i64 a0_1) := (blk_cell BK238.out 1).trans rfl; have hcz83_2 : w82.cell? ⟨gb238, 2, none⟩ = some (.string a0_2) := (blk_cell BK238.out 2).trans rfl; have hfz83_0 := blk_frozen BK238.out 0; have hfz83_1 := blk_frozen BK238.out 1; have hfz83_2 := blk_frozen BK238.out 2; have hcz84_0 : w82.cell? ⟨gb239, 0, none⟩ = some (.int .u8 a1_0) := (blk_cell BK239.out 0).trans rfl; have hcz84_1 : w82.cell? ⟨gb239, 1, none⟩ = some (.int .i64 a1_1) := (blk_cell BK239.out 1).trans rfl; have hcz84_2 : w82.cell? ⟨gb239, 2, none⟩ = some (.string a1_2) := (blk_cell BK239.out 2).trans rfl; have hfz84_0 := blk_frozen BK239.out 0; have hfz84_1 := blk_frozen BK239.out 1; have hfz84_2 := blk_frozen BK239.out 2))
                go_meet
                case rel => exact ⟨_, (false), (by first | rfl | (simp; done) | (simp [*]; done)), H', ⟨by first | omega | exact Nat.le_refl _⟩, ⟨by (with_reducible repeat (first | refine blk_drewN ?_ _ | refine blk_drew ?_ | refine blk_alloc ?_ _)); exact BK238.out⟩, ⟨by (with_reducible repeat (first | refine blk_drewN ?_ _ | refine blk_drew ?_ | refine blk_alloc ?_ _)); exact BK239.out⟩, ⟨by (with_reducible repeat (first | refine blk_drewN ?_ _ | refine blk_drew ?_ | refine blk_alloc ?_ _)); exact BK240.out⟩, ⟨by repeat (first | (with_reducible first | exact HB.out | apply below_alloc | apply pw_below_drewN | apply below_drew1 | refine below_set ?_ GE238.out | refine below_set ?_ GE239.out | refine below_set ?_ GE240.out) | exact HB.out)⟩⟩
              · rw [if_neg c76] at H
                have c76b0 : decide (t241 < 0) = false := decide_eq_false c76
                clear c76
                have H' := Aside0.mk H
                clear H
                have hnb85 := NB239_238.out
                have hnc85 := NB238_239.out
                have hnb86 := NB239_240.out
                have hnc86 := NB240_239.out
                have hcz87_0 : w14.cell? ⟨gb239, 0, none⟩ = some (.int .u8 a1_0) := (blk_cell BK239.out 0).trans rfl
                have hcz87_1 : w14.cell? ⟨gb239, 1, none⟩ = some (.int .i64 a1_1) := (blk_cell BK239.out 1).trans rfl
                have hcz87_2 : w14.cell? ⟨gb239, 2, none⟩ = some (.string a1_2) := (blk_cell BK239.out 2).trans rfl
                have hfz87_0 := blk_frozen BK239.out 0
                have hfz87_1 := blk_frozen BK239.out 1
                have hfz87_2 := blk_frozen BK239.out 2
                have hnb88 := NB238_240.out
                have hnc88 := NB240_238.out
                have hcz89_0 : w14.cell? ⟨gb238, 0, none⟩ = some (.int .u8 a0_0) := (blk_cell BK238.out 0).trans rfl
                have hcz89_1 : w14.cell? ⟨gb238, 1, none⟩ = some (.int .i64 a0_1) := (blk_cell BK238.out 1).trans rfl
                have hcz89_2 : w14.cell? ⟨gb238, 2, none⟩ = some (.string a0_2) := (blk_cell BK238.out 2).trans rfl
                have hfz89_0 := blk_frozen BK238.out 0
                have hfz89_1 := blk_frozen BK238.out 1
                have hfz89_2 := blk_frozen BK238.out 2
                go_wp2_with (first | ((with_reducible refine gate_callee (f := 11) rfl ?_); refine goesL_ (some 29) rfl rfl Tryd.func11 (by kernel_rfl) rfl #[.agg #[.int .u8 a1_0, .int .i64 a1_1, .string a1_2], .agg #[.int .u8 a0_0, .int .i64 a0_1, .string a0_2]] rfl (by (try simp only [List.map_toArray, List.map_cons, List.map_nil]); first | done | rfl | (simp only [List.length_drop, List.length_take]; rfl)) ?_; (with_reducible refine (value_Order.calls a1_0 a1_1 a1_2 a0_0 a0_1 a0_2 t244 _ A15.out).mono ?_); rintro e w90 ⟨rfl, hb⟩; refine ⟨_, rfl, ?_⟩; have n0_ := Aside0.mk (blk_below (g := gb238) (o := .cells #[.int .u8 a0_0, .int .i64 a0_1, .string a0_2] 25 (0, 0)) (by (with_reducible repeat (first | refine blk_drewN ?_ _ | refine blk_drew ?_ | refine blk_alloc ?_ _)); exact BK238.out) hb); have n1_ := Aside0.mk (blk_below (g := gb239) (o := .cells #[.int .u8 a1_0, .int .i64 a1_1, .string a1_2] 25 (0, 0)) (by (with_reducible repeat (first | refine blk_drewN ?_ _ | refine blk_drew ?_ | refine blk_alloc ?_ _)); exact BK239.out) hb); have n2_ := Aside0.mk (blk_below (g := gb240) (o := .cells #[.int .u8 a2_0, .int .i64 a2_1, .string a2_2] 25 (0, 0)) (by (with_reducible repeat (first | refine blk_drewN ?_ _ | refine blk_drew ?_ | refine blk_alloc ?_ _)); exact BK240.out) hb); have n3_ := Aside0.mk (below_step (by repeat (first | (with_reducible first | exact HB.out | apply below_alloc | apply pw_below_drewN | apply below_drew1 | refine below_set ?_ GE238.out | refine below_set ?_ GE239.out | refine below_set ?_ GE240.out) | exact HB.out)) hb); clear BK238; clear BK239; clear BK240; clear HB; have BK238 := n0_; have BK239 := n1_; have BK240 := n2_; have HB := n3_; clear n0_ n1_ n2_ n3_; (try clear hb); (try clear hb2); (try clear hk); (try clear hi); have hcz91_0 : w90.cell? ⟨gb238, 0, none⟩ = some (.int .u8 a0_0) := (blk_cell BK238.out 0).trans rfl; have hcz91_1 : w90.cell? ⟨gb238, 1, none⟩ = some (.int .i64 a0_1) := (blk_cell BK238.out 1).trans rfl; have hcz91_2 : w90.cell? ⟨gb238, 2, none⟩ = some (.string a0_2) := (blk_cell BK238.out 2).trans rfl; have hfz91_0 := blk_frozen BK238.out 0; have hfz91_1 := blk_frozen BK238.out 1; have hfz91_2 := blk_frozen BK238.out 2; have hcz92_0 : w90.cell? ⟨gb239, 0, none⟩ = some (.int .u8 a1_0) := (blk_cell BK239.out 0).trans rfl; have hcz92_1 : w90.cell? ⟨gb239, 1, none⟩ = some (.int .i64 a1_1) := (blk_cell BK239.out 1).trans rfl; have hcz92_2 : w90.cell? ⟨gb239, 2, none⟩ = some (.string a1_2) := (blk_cell BK239.out 2).trans rfl; have hfz92_0 := blk_frozen BK239.out 0; have hfz92_1 := blk_frozen BK239.out 1; have hfz92_2 := blk_frozen BK239.out 2))
                go_meet
                case rel => exact ⟨_, (false), (by first | rfl | (simp; done) | (simp [*]; done)), H', ⟨by first | omega | exact Nat.le_refl _⟩, ⟨by (with_reducible repeat (first | refine blk_drewN ?_ _ | refine blk_drew ?_ | refine blk_alloc ?_ _)); exact BK238.out⟩, ⟨by (with_reducible repeat (first | refine blk_drewN ?_ _ | refine blk_drew ?_ | refine blk_alloc ?_ _)); exact BK239.out⟩, ⟨by (with_reducible repeat (first | refine blk_drewN ?_ _ | refine blk_drew ?_ | refine blk_alloc ?_ _)); exact BK240.out⟩, ⟨by repeat (first | (with_reducible first | exact HB.out | apply below_alloc | apply pw_below_drewN | apply below_drew1 | refine below_set ?_ GE238.out | refine below_set ?_ GE239.out | refine below_set ?_ GE240.out) | exact HB.out)⟩⟩
          · rw [if_neg c66] at H
            have c66b0 : (t241 == 0) = false := beq_eq_false_iff_ne.mpr c66
            have c66b1 : (t241 != 0) = true := bne_iff_ne.mpr c66
            by_cases c93 : t241 < 0
            · rw [if_pos c93] at H
              have c93b0 : decide (t241 < 0) = true := decide_eq_true c93
              clear c93
              have H' := Aside0.mk H
              clear H
              have hnb94 := NB239_238.out
              have hnc94 := NB238_239.out
              have hnb95 := NB239_240.out
              have hnc95 := NB240_239.out
              have hcz96_0 : w14.cell? ⟨gb239, 0, none⟩ = some (.int .u8 a1_0) := (blk_cell BK239.out 0).trans rfl
              have hcz96_1 : w14.cell? ⟨gb239, 1, none⟩ = some (.int .i64 a1_1) := (blk_cell BK239.out 1).trans rfl
              have hcz96_2 : w14.cell? ⟨gb239, 2, none⟩ = some (.string a1_2) := (blk_cell BK239.out 2).trans rfl
              have hfz96_0 := blk_frozen BK239.out 0
              have hfz96_1 := blk_frozen BK239.out 1
              have hfz96_2 := blk_frozen BK239.out 2
              have hnb97 := NB238_240.out
              have hnc97 := NB240_238.out
              have hcz98_0 : w14.cell? ⟨gb238, 0, none⟩ = some (.int .u8 a0_0) := (blk_cell BK238.out 0).trans rfl
              have hcz98_1 : w14.cell? ⟨gb238, 1, none⟩ = some (.int .i64 a0_1) := (blk_cell BK238.out 1).trans rfl
              have hcz98_2 : w14.cell? ⟨gb238, 2, none⟩ = some (.string a0_2) := (blk_cell BK238.out 2).trans rfl
              have hfz98_0 := blk_frozen BK238.out 0
              have hfz98_1 := blk_frozen BK238.out 1
              have hfz98_2 := blk_frozen BK238.out 2
              go_wp2_with (first | ((with_reducible refine gate_callee (f := 11) rfl ?_); refine goesL_ (some 29) rfl rfl Tryd.func11 (by kernel_rfl) rfl #[.agg #[.int .u8 a1_0, .int .i64 a1_1, .string a1_2], .agg #[.int .u8 a0_0, .int .i64 a0_1, .string a0_2]] rfl (by (try simp only [List.map_toArray, List.map_cons, List.map_nil]); first | done | rfl | (simp only [List.length_drop, List.length_take]; rfl)) ?_; (with_reducible refine (value_Order.calls a1_0 a1_1 a1_2 a0_0 a0_1 a0_2 t244 _ A15.out).mono ?_); rintro e w99 ⟨rfl, hb⟩; refine ⟨_, rfl, ?_⟩; have n0_ := Aside0.mk (blk_below (g := gb238) (o := .cells #[.int .u8 a0_0, .int .i64 a0_1, .string a0_2] 25 (0, 0)) (by (with_reducible repeat (first | refine blk_drewN ?_ _ | refine blk_drew ?_ | refine blk_alloc ?_ _)); exact BK238.out) hb); have n1_ := Aside0.mk (blk_below (g := gb239) (o := .cells #[.int .u8 a1_0, .int .i64 a1_1, .string a1_2] 25 (0, 0)) (by (with_reducible repeat (first | refine blk_drewN ?_ _ | refine blk_drew ?_ | refine blk_alloc ?_ _)); exact BK239.out) hb); have n2_ := Aside0.mk (blk_below (g := gb240) (o := .cells #[.int .u8 a2_0, .int .i64 a2_1, .string a2_2] 25 (0, 0)) (by (with_reducible repeat (first | refine blk_drewN ?_ _ | refine blk_drew ?_ | refine blk_alloc ?_ _)); exact BK240.out) hb); have n3_ := Aside0.mk (below_step (by repeat (first | (with_reducible first | exact HB.out | apply below_alloc | apply pw_below_drewN | apply below_drew1 | refine below_set ?_ GE238.out | refine below_set ?_ GE239.out | refine below_set ?_ GE240.out) | exact HB.out)) hb); clear BK238; clear BK239; clear BK240; clear HB; have BK238 := n0_; have BK239 := n1_; have BK240 := n2_; have HB := n3_; clear n0_ n1_ n2_ n3_; (try clear hb); (try clear hb2); (try clear hk); (try clear hi)))
              go_meet
              case rel => exact ⟨_, (false), (by first | rfl | (simp; done) | (simp [*]; done)), H', ⟨by first | omega | exact Nat.le_refl _⟩, ⟨by (with_reducible repeat (first | refine blk_drewN ?_ _ | refine blk_drew ?_ | refine blk_alloc ?_ _)); exact BK238.out⟩, ⟨by (with_reducible repeat (first | refine blk_drewN ?_ _ | refine blk_drew ?_ | refine blk_alloc ?_ _)); exact BK239.out⟩, ⟨by (with_reducible repeat (first | refine blk_drewN ?_ _ | refine blk_drew ?_ | refine blk_alloc ?_ _)); exact BK240.out⟩, ⟨by repeat (first | (with_reducible first | exact HB.out | apply below_alloc | apply pw_below_drewN | apply below_drew1 | refine below_set ?_ GE238.out | refine below_set ?_ GE239.out | refine below_set ?_ GE240.out) | exact HB.out)⟩⟩
            · rw [if_neg c93] at H
              have c93b0 : decide (t241 < 0) = false := decide_eq_false c93
              clear c93
              have H' := Aside0.mk H
              clear H
              have hnb100 := NB239_238.out
              have hnc100 := NB238_239.out
              have hnb101 := NB239_240.out
              have hnc101 := NB240_239.out
              have hcz102_0 : w14.cell? ⟨gb239, 0, none⟩ = some (.int .u8 a1_0) := (blk_cell BK239.out 0).trans rfl
              have hcz102_1 : w14.cell? ⟨gb239, 1, none⟩ = some (.int .i64 a1_1) := (blk_cell BK239.out 1).trans rfl
              have hcz102_2 : w14.cell? ⟨gb239, 2, none⟩ = some (.string a1_2) := (blk_cell BK239.out 2).trans rfl
              have hfz102_0 := blk_frozen BK239.out 0
              have hfz102_1 := blk_frozen BK239.out 1
              have hfz102_2 := blk_frozen BK239.out 2
              have hnb103 := NB238_240.out
              have hnc103 := NB240_238.out
              have hcz104_0 : w14.cell? ⟨gb238, 0, none⟩ = some (.int .u8 a0_0) := (blk_cell BK238.out 0).trans rfl
              have hcz104_1 : w14.cell? ⟨gb238, 1, none⟩ = some (.int .i64 a0_1) := (blk_cell BK238.out 1).trans rfl
              have hcz104_2 : w14.cell? ⟨gb238, 2, none⟩ = some (.string a0_2) := (blk_cell BK238.out 2).trans rfl
              have hfz104_0 := blk_frozen BK238.out 0
              have hfz104_1 := blk_frozen BK238.out 1
              have hfz104_2 := blk_frozen BK238.out 2
              go_wp2_with (first | ((with_reducible refine gate_callee (f := 11) rfl ?_); refine goesL_ (some 29) rfl rfl Tryd.func11 (by kernel_rfl) rfl #[.agg #[.int .u8 a1_0, .int .i64 a1_1, .string a1_2], .agg #[.int .u8 a0_0, .int .i64 a0_1, .string a0_2]] rfl (by (try simp only [List.map_toArray, List.map_cons, List.map_nil]); first | done | rfl | (simp only [List.length_drop, List.length_take]; rfl)) ?_; (with_reducible refine (value_Order.calls a1_0 a1_1 a1_2 a0_0 a0_1 a0_2 t244 _ A15.out).mono ?_); rintro e w105 ⟨rfl, hb⟩; refine ⟨_, rfl, ?_⟩; have n0_ := Aside0.mk (blk_below (g := gb238) (o := .cells #[.int .u8 a0_0, .int .i64 a0_1, .string a0_2] 25 (0, 0)) (by (with_reducible repeat (first | refine blk_drewN ?_ _ | refine blk_drew ?_ | refine blk_alloc ?_ _)); exact BK238.out) hb); have n1_ := Aside0.mk (blk_below (g := gb239) (o := .cells #[.int .u8 a1_0, .int .i64 a1_1, .string a1_2] 25 (0, 0)) (by (with_reducible repeat (first | refine blk_drewN ?_ _ | refine blk_drew ?_ | refine blk_alloc ?_ _)); exact BK239.out) hb); have n2_ := Aside0.mk (blk_below (g := gb240) (o := .cells #[.int .u8 a2_0, .int .i64 a2_1, .string a2_2] 25 (0, 0)) (by (with_reducible repeat (first | refine blk_drewN ?_ _ | refine blk_drew ?_ | refine blk_alloc ?_ _)); exact BK240.out) hb); have n3_ := Aside0.mk (below_step (by repeat (first | (with_reducible first | exact HB.out | apply below_alloc | apply pw_below_drewN | apply below_drew1 | refine below_set ?_ GE238.out | refine below_set ?_ GE239.out | refine below_set ?_ GE240.out) | exact HB.out)) hb); clear BK238; clear BK239; clear BK240; clear HB; have BK238 := n0_; have BK239 := n1_; have BK240 := n2_; have HB := n3_; clear n0_ n1_ n2_ n3_; (try clear hb); (try clear hb2); (try clear hk); (try clear hi)))
              go_meet
              case rel => exact ⟨_, (false), (by first | rfl | (simp; done) | (simp [*]; done)), H', ⟨by first | omega | exact Nat.le_refl _⟩, ⟨by (with_reducible repeat (first | refine blk_drewN ?_ _ | refine blk_drew ?_ | refine blk_alloc ?_ _)); exact BK238.out⟩, ⟨by (with_reducible repeat (first | refine blk_drewN ?_ _ | refine blk_drew ?_ | refine blk_alloc ?_ _)); exact BK239.out⟩, ⟨by (with_reducible repeat (first | refine blk_drewN ?_ _ | refine blk_drew ?_ | refine blk_alloc ?_ _)); exact BK240.out⟩, ⟨by repeat (first | (with_reducible first | exact HB.out | apply below_alloc | apply pw_below_drewN | apply below_drew1 | refine below_set ?_ GE238.out | refine below_set ?_ GE239.out | refine below_set ?_ GE240.out) | exact HB.out)⟩⟩
      · rw [if_neg c17] at H
        have c17b0 : decide (t241 ≤ 0) = false := decide_eq_false c17
        clear c17
        by_cases c106 : t241 = 0
        · rw [if_pos c106] at H
          have c106b0 : (t241 == 0) = true := beq_iff_eq.mpr c106
          have c106b1 : (t241 != 0) = false := bne_eq_false_iff_eq.mpr c106
          clear c106
          by_cases c107 : (!(a0_0 == a1_0) || (!(a0_1 == a1_1) || (!(a0_2.toList == a1_2.toList)))) = true
          · rw [if_pos c107] at H
            have c107b0 : (!(a0_0 == a1_0) || (!(a0_1 == a1_1) || (!(a0_2.toList == a1_2.toList)))) = true := c107
            clear c107
            have H' := Aside0.mk H
            clear H
            have hnb108 := NB239_238.out
            have hnc108 := NB238_239.out
            have hnb109 := NB239_240.out
            have hnc109 := NB240_239.out
            have hcz110_0 : w14.cell? ⟨gb239, 0, none⟩ = some (.int .u8 a1_0) := (blk_cell BK239.out 0).trans rfl
            have hcz110_1 : w14.cell? ⟨gb239, 1, none⟩ = some (.int .i64 a1_1) := (blk_cell BK239.out 1).trans rfl
            have hcz110_2 : w14.cell? ⟨gb239, 2, none⟩ = some (.string a1_2) := (blk_cell BK239.out 2).trans rfl
            have hfz110_0 := blk_frozen BK239.out 0
            have hfz110_1 := blk_frozen BK239.out 1
            have hfz110_2 := blk_frozen BK239.out 2
            have hnb111 := NB238_240.out
            have hnc111 := NB240_238.out
            have hcz112_0 : w14.cell? ⟨gb238, 0, none⟩ = some (.int .u8 a0_0) := (blk_cell BK238.out 0).trans rfl
            have hcz112_1 : w14.cell? ⟨gb238, 1, none⟩ = some (.int .i64 a0_1) := (blk_cell BK238.out 1).trans rfl
            have hcz112_2 : w14.cell? ⟨gb238, 2, none⟩ = some (.string a0_2) := (blk_cell BK238.out 2).trans rfl
            have hfz112_0 := blk_frozen BK238.out 0
            have hfz112_1 := blk_frozen BK238.out 1
            have hfz112_2 := blk_frozen BK238.out 2
            go_wp2_with (first | ((with_reducible refine gate_callee (f := 11) rfl ?_); refine goesL_ (some 29) rfl rfl Tryd.func11 (by kernel_rfl) rfl #[.agg #[.int .u8 a1_0, .int .i64 a1_1, .string a1_2], .agg #[.int .u8 a0_0, .int .i64 a0_1, .string a0_2]] rfl (by (try simp only [List.map_toArray, List.map_cons, List.map_nil]); first | done | rfl | (simp only [List.length_drop, List.length_take]; rfl)) ?_; (with_reducible refine (value_Order.calls a1_0 a1_1 a1_2 a0_0 a0_1 a0_2 t244 _ A15.out).mono ?_); rintro e w113 ⟨rfl, hb⟩; refine ⟨_, rfl, ?_⟩; have n0_ := Aside0.mk (blk_below (g := gb238) (o := .cells #[.int .u8 a0_0, .int .i64 a0_1, .string a0_2] 25 (0, 0)) (by (with_reducible repeat (first | refine blk_drewN ?_ _ | refine blk_drew ?_ | refine blk_alloc ?_ _)); exact BK238.out) hb); have n1_ := Aside0.mk (blk_below (g := gb239) (o := .cells #[.int .u8 a1_0, .int .i64 a1_1, .string a1_2] 25 (0, 0)) (by (with_reducible repeat (first | refine blk_drewN ?_ _ | refine blk_drew ?_ | refine blk_alloc ?_ _)); exact BK239.out) hb); have n2_ := Aside0.mk (blk_below (g := gb240) (o := .cells #[.int .u8 a2_0, .int .i64 a2_1, .string a2_2] 25 (0, 0)) (by (with_reducible repeat (first | refine blk_drewN ?_ _ | refine blk_drew ?_ | refine blk_alloc ?_ _)); exact BK240.out) hb); have n3_ := Aside0.mk (below_step (by repeat (first | (with_reducible first | exact HB.out | apply below_alloc | apply pw_below_drewN | apply below_drew1 | refine below_set ?_ GE238.out | refine below_set ?_ GE239.out | refine below_set ?_ GE240.out) | exact HB.out)) hb); clear BK238; clear BK239; clear BK240; clear HB; have BK238 := n0_; have BK239 := n1_; have BK240 := n2_; have HB := n3_; clear n0_ n1_ n2_ n3_; (try clear hb); (try clear hb2); (try clear hk); (try clear hi); have hcz114_0 : w113.cell? ⟨gb238, 0, none⟩ = some (.int .u8 a0_0) := (blk_cell BK238.out 0).trans rfl; have hcz114_1 : w113.cell? ⟨gb238, 1, none⟩ = some (.int .i64 a0_1) := (blk_cell BK238.out 1).trans rfl; have hcz114_2 : w113.cell? ⟨gb238, 2, none⟩ = some (.string a0_2) := (blk_cell BK238.out 2).trans rfl; have hfz114_0 := blk_frozen BK238.out 0; have hfz114_1 := blk_frozen BK238.out 1; have hfz114_2 := blk_frozen BK238.out 2; have hcz115_0 : w113.cell? ⟨gb239, 0, none⟩ = some (.int .u8 a1_0) := (blk_cell BK239.out 0).trans rfl; have hcz115_1 : w113.cell? ⟨gb239, 1, none⟩ = some (.int .i64 a1_1) := (blk_cell BK239.out 1).trans rfl; have hcz115_2 : w113.cell? ⟨gb239, 2, none⟩ = some (.string a1_2) := (blk_cell BK239.out 2).trans rfl; have hfz115_0 := blk_frozen BK239.out 0; have hfz115_1 := blk_frozen BK239.out 1; have hfz115_2 := blk_frozen BK239.out 2))
            go_meet
            case rel => exact ⟨_, (true), (by first | rfl | (simp; done) | (simp [*]; done)), H', ⟨by first | omega | exact Nat.le_refl _⟩, ⟨by (with_reducible repeat (first | refine blk_drewN ?_ _ | refine blk_drew ?_ | refine blk_alloc ?_ _)); exact BK238.out⟩, ⟨by (with_reducible repeat (first | refine blk_drewN ?_ _ | refine blk_drew ?_ | refine blk_alloc ?_ _)); exact BK239.out⟩, ⟨by (with_reducible repeat (first | refine blk_drewN ?_ _ | refine blk_drew ?_ | refine blk_alloc ?_ _)); exact BK240.out⟩, ⟨by repeat (first | (with_reducible first | exact HB.out | apply below_alloc | apply pw_below_drewN | apply below_drew1 | refine below_set ?_ GE238.out | refine below_set ?_ GE239.out | refine below_set ?_ GE240.out) | exact HB.out)⟩⟩
          · rw [if_neg c107] at H
            have c107b0 : (!(a0_0 == a1_0) || (!(a0_1 == a1_1) || (!(a0_2.toList == a1_2.toList)))) = false := by simpa using c107
            clear c107
            by_cases c116 : t241 < 0
            · rw [if_pos c116] at H
              have c116b0 : decide (t241 < 0) = true := decide_eq_true c116
              clear c116
              by_cases c117 : t242 ≤ 0
              · rw [if_pos c117] at H
                have c117b0 : decide (t242 ≤ 0) = true := decide_eq_true c117
                clear c117
                have H' := Aside0.mk H
                clear H
                have hnb118 := NB239_238.out
                have hnc118 := NB238_239.out
                have hnb119 := NB239_240.out
                have hnc119 := NB240_239.out
                have hcz120_0 : w14.cell? ⟨gb239, 0, none⟩ = some (.int .u8 a1_0) := (blk_cell BK239.out 0).trans rfl
                have hcz120_1 : w14.cell? ⟨gb239, 1, none⟩ = some (.int .i64 a1_1) := (blk_cell BK239.out 1).trans rfl
                have hcz120_2 : w14.cell? ⟨gb239, 2, none⟩ = some (.string a1_2) := (blk_cell BK239.out 2).trans rfl
                have hfz120_0 := blk_frozen BK239.out 0
                have hfz120_1 := blk_frozen BK239.out 1
                have hfz120_2 := blk_frozen BK239.out 2
                have hnb121 := NB238_240.out
                have hnc121 := NB240_238.out
                have hcz122_0 : w14.cell? ⟨gb238, 0, none⟩ = some (.int .u8 a0_0) := (blk_cell BK238.out 0).trans rfl
                have hcz122_1 : w14.cell? ⟨gb238, 1, none⟩ = some (.int .i64 a0_1) := (blk_cell BK238.out 1).trans rfl
                have hcz122_2 : w14.cell? ⟨gb238, 2, none⟩ = some (.string a0_2) := (blk_cell BK238.out 2).trans rfl
                have hfz122_0 := blk_frozen BK238.out 0
                have hfz122_1 := blk_frozen BK238.out 1
                have hfz122_2 := blk_frozen BK238.out 2
                go_wp2_with (first | ((with_reducible refine gate_callee (f := 11) rfl ?_); refine goesL_ (some 29) rfl rfl Tryd.func11 (by kernel_rfl) rfl #[.agg #[.int .u8 a1_0, .int .i64 a1_1, .string a1_2], .agg #[.int .u8 a0_0, .int .i64 a0_1, .string a0_2]] rfl (by (try simp only [List.map_toArray, List.map_cons, List.map_nil]); first | done | rfl | (simp only [List.length_drop, List.length_take]; rfl)) ?_; (with_reducible refine (value_Order.calls a1_0 a1_1 a1_2 a0_0 a0_1 a0_2 t244 _ A15.out).mono ?_); rintro e w123 ⟨rfl, hb⟩; refine ⟨_, rfl, ?_⟩; have n0_ := Aside0.mk (blk_below (g := gb238) (o := .cells #[.int .u8 a0_0, .int .i64 a0_1, .string a0_2] 25 (0, 0)) (by (with_reducible repeat (first | refine blk_drewN ?_ _ | refine blk_drew ?_ | refine blk_alloc ?_ _)); exact BK238.out) hb); have n1_ := Aside0.mk (blk_below (g := gb239) (o := .cells #[.int .u8 a1_0, .int .i64 a1_1, .string a1_2] 25 (0, 0)) (by (with_reducible repeat (first | refine blk_drewN ?_ _ | refine blk_drew ?_ | refine blk_alloc ?_ _)); exact BK239.out) hb); have n2_ := Aside0.mk (blk_below (g := gb240) (o := .cells #[.int .u8 a2_0, .int .i64 a2_1, .string a2_2] 25 (0, 0)) (by (with_reducible repeat (first | refine blk_drewN ?_ _ | refine blk_drew ?_ | refine blk_alloc ?_ _)); exact BK240.out) hb); have n3_ := Aside0.mk (below_step (by repeat (first | (with_reducible first | exact HB.out | apply below_alloc | apply pw_below_drewN | apply below_drew1 | refine below_set ?_ GE238.out | refine below_set ?_ GE239.out | refine below_set ?_ GE240.out) | exact HB.out)) hb); clear BK238; clear BK239; clear BK240; clear HB; have BK238 := n0_; have BK239 := n1_; have BK240 := n2_; have HB := n3_; clear n0_ n1_ n2_ n3_; (try clear hb); (try clear hb2); (try clear hk); (try clear hi); have hcz124_0 : w123.cell? ⟨gb238, 0, none⟩ = some (.int .u8 a0_0) := (blk_cell BK238.out 0).trans rfl; have hcz124_1 : w123.cell? ⟨gb238, 1, none⟩ = some (.int .i64 a0_1) := (blk_cell BK238.out 1).trans rfl; have hcz124_2 : w123.cell? ⟨gb238, 2, none⟩ = some (.string a0_2) := (blk_cell BK238.out 2).trans rfl; have hfz124_0 := blk_frozen BK238.out 0; have hfz124_1 := blk_frozen BK238.out 1; have hfz124_2 := blk_frozen BK238.out 2; have hcz125_0 : w123.cell? ⟨gb239, 0, none⟩ = some (.int .u8 a1_0) := (blk_cell BK239.out 0).trans rfl; have hcz125_1 : w123.cell? ⟨gb239, 1, none⟩ = some (.int .i64 a1_1) := (blk_cell BK239.out 1).trans rfl; have hcz125_2 : w123.cell? ⟨gb239, 2, none⟩ = some (.string a1_2) := (blk_cell BK239.out 2).trans rfl; have hfz125_0 := blk_frozen BK239.out 0; have hfz125_1 := blk_frozen BK239.out 1; have hfz125_2 := blk_frozen BK239.out 2))
                go_meet
                case rel => exact ⟨_, (decide (t243 ≥ 0)), (by first | rfl | (simp; done) | (simp [*]; done)), H', ⟨by first | omega | exact Nat.le_refl _⟩, ⟨by (with_reducible repeat (first | refine blk_drewN ?_ _ | refine blk_drew ?_ | refine blk_alloc ?_ _)); exact BK238.out⟩, ⟨by (with_reducible repeat (first | refine blk_drewN ?_ _ | refine blk_drew ?_ | refine blk_alloc ?_ _)); exact BK239.out⟩, ⟨by (with_reducible repeat (first | refine blk_drewN ?_ _ | refine blk_drew ?_ | refine blk_alloc ?_ _)); exact BK240.out⟩, ⟨by repeat (first | (with_reducible first | exact HB.out | apply below_alloc | apply pw_below_drewN | apply below_drew1 | refine below_set ?_ GE238.out | refine below_set ?_ GE239.out | refine below_set ?_ GE240.out) | exact HB.out)⟩⟩
              · rw [if_neg c117] at H
                have c117b0 : decide (t242 ≤ 0) = false := decide_eq_false c117
                clear c117
                have H' := Aside0.mk H
                clear H
                have hnb126 := NB239_238.out
                have hnc126 := NB238_239.out
                have hnb127 := NB239_240.out
                have hnc127 := NB240_239.out
                have hcz128_0 : w14.cell? ⟨gb239, 0, none⟩ = some (.int .u8 a1_0) := (blk_cell BK239.out 0).trans rfl
                have hcz128_1 : w14.cell? ⟨gb239, 1, none⟩ = some (.int .i64 a1_1) := (blk_cell BK239.out 1).trans rfl
                have hcz128_2 : w14.cell? ⟨gb239, 2, none⟩ = some (.string a1_2) := (blk_cell BK239.out 2).trans rfl
                have hfz128_0 := blk_frozen BK239.out 0
                have hfz128_1 := blk_frozen BK239.out 1
                have hfz128_2 := blk_frozen BK239.out 2
                have hnb129 := NB238_240.out
                have hnc129 := NB240_238.out
                have hcz130_0 : w14.cell? ⟨gb238, 0, none⟩ = some (.int .u8 a0_0) := (blk_cell BK238.out 0).trans rfl
                have hcz130_1 : w14.cell? ⟨gb238, 1, none⟩ = some (.int .i64 a0_1) := (blk_cell BK238.out 1).trans rfl
                have hcz130_2 : w14.cell? ⟨gb238, 2, none⟩ = some (.string a0_2) := (blk_cell BK238.out 2).trans rfl
                have hfz130_0 := blk_frozen BK238.out 0
                have hfz130_1 := blk_frozen BK238.out 1
                have hfz130_2 := blk_frozen BK238.out 2
                go_wp2_with (first | ((with_reducible refine gate_callee (f := 11) rfl ?_); refine goesL_ (some 29) rfl rfl Tryd.func11 (by kernel_rfl) rfl #[.agg #[.int .u8 a1_0, .int .i64 a1_1, .string a1_2], .agg #[.int .u8 a0_0, .int .i64 a0_1, .string a0_2]] rfl (by (try simp only [List.map_toArray, List.map_cons, List.map_nil]); first | done | rfl | (simp only [List.length_drop, List.length_take]; rfl)) ?_; (with_reducible refine (value_Order.calls a1_0 a1_1 a1_2 a0_0 a0_1 a0_2 t244 _ A15.out).mono ?_); rintro e w131 ⟨rfl, hb⟩; refine ⟨_, rfl, ?_⟩; have n0_ := Aside0.mk (blk_below (g := gb238) (o := .cells #[.int .u8 a0_0, .int .i64 a0_1, .string a0_2] 25 (0, 0)) (by (with_reducible repeat (first | refine blk_drewN ?_ _ | refine blk_drew ?_ | refine blk_alloc ?_ _)); exact BK238.out) hb); have n1_ := Aside0.mk (blk_below (g := gb239) (o := .cells #[.int .u8 a1_0, .int .i64 a1_1, .string a1_2] 25 (0, 0)) (by (with_reducible repeat (first | refine blk_drewN ?_ _ | refine blk_drew ?_ | refine blk_alloc ?_ _)); exact BK239.out) hb); have n2_ := Aside0.mk (blk_below (g := gb240) (o := .cells #[.int .u8 a2_0, .int .i64 a2_1, .string a2_2] 25 (0, 0)) (by (with_reducible repeat (first | refine blk_drewN ?_ _ | refine blk_drew ?_ | refine blk_alloc ?_ _)); exact BK240.out) hb); have n3_ := Aside0.mk (below_step (by repeat (first | (with_reducible first | exact HB.out | apply below_alloc | apply pw_below_drewN | apply below_drew1 | refine below_set ?_ GE238.out | refine below_set ?_ GE239.out | refine below_set ?_ GE240.out) | exact HB.out)) hb); clear BK238; clear BK239; clear BK240; clear HB; have BK238 := n0_; have BK239 := n1_; have BK240 := n2_; have HB := n3_; clear n0_ n1_ n2_ n3_; (try clear hb); (try clear hb2); (try clear hk); (try clear hi); have hcz132_0 : w131.cell? ⟨gb238, 0, none⟩ = some (.int .u8 a0_0) := (blk_cell BK238.out 0).trans rfl; have hcz132_1 : w131.cell? ⟨gb238, 1, none⟩ = some (.int .i64 a0_1) := (blk_cell BK238.out 1).trans rfl; have hcz132_2 : w131.cell? ⟨gb238, 2, none⟩ = some (.string a0_2) := (blk_cell BK238.out 2).trans rfl; have hfz132_0 := blk_frozen BK238.out 0; have hfz132_1 := blk_frozen BK238.out 1; have hfz132_2 := blk_frozen BK238.out 2; have hcz133_0 : w131.cell? ⟨gb239, 0, none⟩ = some (.int .u8 a1_0) := (blk_cell BK239.out 0).trans rfl; have hcz133_1 : w131.cell? ⟨gb239, 1, none⟩ = some (.int .i64 a1_1) := (blk_cell BK239.out 1).trans rfl; have hcz133_2 : w131.cell? ⟨gb239, 2, none⟩ = some (.string a1_2) := (blk_cell BK239.out 2).trans rfl; have hfz133_0 := blk_frozen BK239.out 0; have hfz133_1 := blk_frozen BK239.out 1; have hfz133_2 := blk_frozen BK239.out 2))
                go_meet
                case rel => exact ⟨_, (false), (by first | rfl | (simp; done) | (simp [*]; done)), H', ⟨by first | omega | exact Nat.le_refl _⟩, ⟨by (with_reducible repeat (first | refine blk_drewN ?_ _ | refine blk_drew ?_ | refine blk_alloc ?_ _)); exact BK238.out⟩, ⟨by (with_reducible repeat (first | refine blk_drewN ?_ _ | refine blk_drew ?_ | refine blk_alloc ?_ _)); exact BK239.out⟩, ⟨by (with_reducible repeat (first | refine blk_drewN ?_ _ | refine blk_drew ?_ | refine blk_alloc ?_ _)); exact BK240.out⟩, ⟨by repeat (first | (with_reducible first | exact HB.out | apply below_alloc | apply pw_below_drewN | apply below_drew1 | refine below_set ?_ GE238.out | refine below_set ?_ GE239.out | refine below_set ?_ GE240.out) | exact HB.out)⟩⟩
            · rw [if_neg c116] at H
              have c116b0 : decide (t241 < 0) = false := decide_eq_false c116
              clear c116
              have H' := Aside0.mk H
              clear H
              have hnb134 := NB239_238.out
              have hnc134 := NB238_239.out
              have hnb135 := NB239_240.out
              have hnc135 := NB240_239.out
              have hcz136_0 : w14.cell? ⟨gb239, 0, none⟩ = some (.int .u8 a1_0) := (blk_cell BK239.out 0).trans rfl
              have hcz136_1 : w14.cell? ⟨gb239, 1, none⟩ = some (.int .i64 a1_1) := (blk_cell BK239.out 1).trans rfl
              have hcz136_2 : w14.cell? ⟨gb239, 2, none⟩ = some (.string a1_2) := (blk_cell BK239.out 2).trans rfl
              have hfz136_0 := blk_frozen BK239.out 0
              have hfz136_1 := blk_frozen BK239.out 1
              have hfz136_2 := blk_frozen BK239.out 2
              have hnb137 := NB238_240.out
              have hnc137 := NB240_238.out
              have hcz138_0 : w14.cell? ⟨gb238, 0, none⟩ = some (.int .u8 a0_0) := (blk_cell BK238.out 0).trans rfl
              have hcz138_1 : w14.cell? ⟨gb238, 1, none⟩ = some (.int .i64 a0_1) := (blk_cell BK238.out 1).trans rfl
              have hcz138_2 : w14.cell? ⟨gb238, 2, none⟩ = some (.string a0_2) := (blk_cell BK238.out 2).trans rfl
              have hfz138_0 := blk_frozen BK238.out 0
              have hfz138_1 := blk_frozen BK238.out 1
              have hfz138_2 := blk_frozen BK238.out 2
              go_wp2_with (first | ((with_reducible refine gate_callee (f := 11) rfl ?_); refine goesL_ (some 29) rfl rfl Tryd.func11 (by kernel_rfl) rfl #[.agg #[.int .u8 a1_0, .int .i64 a1_1, .string a1_2], .agg #[.int .u8 a0_0, .int .i64 a0_1, .string a0_2]] rfl (by (try simp only [List.map_toArray, List.map_cons, List.map_nil]); first | done | rfl | (simp only [List.length_drop, List.length_take]; rfl)) ?_; (with_reducible refine (value_Order.calls a1_0 a1_1 a1_2 a0_0 a0_1 a0_2 t244 _ A15.out).mono ?_); rintro e w139 ⟨rfl, hb⟩; refine ⟨_, rfl, ?_⟩; have n0_ := Aside0.mk (blk_below (g := gb238) (o := .cells #[.int .u8 a0_0, .int .i64 a0_1, .string a0_2] 25 (0, 0)) (by (with_reducible repeat (first | refine blk_drewN ?_ _ | refine blk_drew ?_ | refine blk_alloc ?_ _)); exact BK238.out) hb); have n1_ := Aside0.mk (blk_below (g := gb239) (o := .cells #[.int .u8 a1_0, .int .i64 a1_1, .string a1_2] 25 (0, 0)) (by (with_reducible repeat (first | refine blk_drewN ?_ _ | refine blk_drew ?_ | refine blk_alloc ?_ _)); exact BK239.out) hb); have n2_ := Aside0.mk (blk_below (g := gb240) (o := .cells #[.int .u8 a2_0, .int .i64 a2_1, .string a2_2] 25 (0, 0)) (by (with_reducible repeat (first | refine blk_drewN ?_ _ | refine blk_drew ?_ | refine blk_alloc ?_ _)); exact BK240.out) hb); have n3_ := Aside0.mk (below_step (by repeat (first | (with_reducible first | exact HB.out | apply below_alloc | apply pw_below_drewN | apply below_drew1 | refine below_set ?_ GE238.out | refine below_set ?_ GE239.out | refine below_set ?_ GE240.out) | exact HB.out)) hb); clear BK238; clear BK239; clear BK240; clear HB; have BK238 := n0_; have BK239 := n1_; have BK240 := n2_; have HB := n3_; clear n0_ n1_ n2_ n3_; (try clear hb); (try clear hb2); (try clear hk); (try clear hi); have hcz140_0 : w139.cell? ⟨gb238, 0, none⟩ = some (.int .u8 a0_0) := (blk_cell BK238.out 0).trans rfl; have hcz140_1 : w139.cell? ⟨gb238, 1, none⟩ = some (.int .i64 a0_1) := (blk_cell BK238.out 1).trans rfl; have hcz140_2 : w139.cell? ⟨gb238, 2, none⟩ = some (.string a0_2) := (blk_cell BK238.out 2).trans rfl; have hfz140_0 := blk_frozen BK238.out 0; have hfz140_1 := blk_frozen BK238.out 1; have hfz140_2 := blk_frozen BK238.out 2; have hcz141_0 : w139.cell? ⟨gb239, 0, none⟩ = some (.int .u8 a1_0) := (blk_cell BK239.out 0).trans rfl; have hcz141_1 : w139.cell? ⟨gb239, 1, none⟩ = some (.int .i64 a1_1) := (blk_cell BK239.out 1).trans rfl; have hcz141_2 : w139.cell? ⟨gb239, 2, none⟩ = some (.string a1_2) := (blk_cell BK239.out 2).trans rfl; have hfz141_0 := blk_frozen BK239.out 0; have hfz141_1 := blk_frozen BK239.out 1; have hfz141_2 := blk_frozen BK239.out 2))
              go_meet
              case rel => exact ⟨_, (false), (by first | rfl | (simp; done) | (simp [*]; done)), H', ⟨by first | omega | exact Nat.le_refl _⟩, ⟨by (with_reducible repeat (first | refine blk_drewN ?_ _ | refine blk_drew ?_ | refine blk_alloc ?_ _)); exact BK238.out⟩, ⟨by (with_reducible repeat (first | refine blk_drewN ?_ _ | refine blk_drew ?_ | refine blk_alloc ?_ _)); exact BK239.out⟩, ⟨by (with_reducible repeat (first | refine blk_drewN ?_ _ | refine blk_drew ?_ | refine blk_alloc ?_ _)); exact BK240.out⟩, ⟨by repeat (first | (with_reducible first | exact HB.out | apply below_alloc | apply pw_below_drewN | apply below_drew1 | refine below_set ?_ GE238.out | refine below_set ?_ GE239.out | refine below_set ?_ GE240.out) | exact HB.out)⟩⟩
        · rw [if_neg c106] at H
          have c106b0 : (t241 == 0) = false := beq_eq_false_iff_ne.mpr c106
          have c106b1 : (t241 != 0) = true := bne_iff_ne.mpr c106
          by_cases c142 : t241 < 0
          · rw [if_pos c142] at H
            have c142b0 : decide (t241 < 0) = true := decide_eq_true c142
            clear c142
            by_cases c143 : t242 ≤ 0
            · rw [if_pos c143] at H
              have c143b0 : decide (t242 ≤ 0) = true := decide_eq_true c143
              clear c143
              have H' := Aside0.mk H
              clear H
              have hnb144 := NB239_238.out
              have hnc144 := NB238_239.out
              have hnb145 := NB239_240.out
              have hnc145 := NB240_239.out
              have hcz146_0 : w14.cell? ⟨gb239, 0, none⟩ = some (.int .u8 a1_0) := (blk_cell BK239.out 0).trans rfl
              have hcz146_1 : w14.cell? ⟨gb239, 1, none⟩ = some (.int .i64 a1_1) := (blk_cell BK239.out 1).trans rfl
              have hcz146_2 : w14.cell? ⟨gb239, 2, none⟩ = some (.string a1_2) := (blk_cell BK239.out 2).trans rfl
              have hfz146_0 := blk_frozen BK239.out 0
              have hfz146_1 := blk_frozen BK239.out 1
              have hfz146_2 := blk_frozen BK239.out 2
              have hnb147 := NB238_240.out
              have hnc147 := NB240_238.out
              have hcz148_0 : w14.cell? ⟨gb238, 0, none⟩ = some (.int .u8 a0_0) := (blk_cell BK238.out 0).trans rfl
              have hcz148_1 : w14.cell? ⟨gb238, 1, none⟩ = some (.int .i64 a0_1) := (blk_cell BK238.out 1).trans rfl
              have hcz148_2 : w14.cell? ⟨gb238, 2, none⟩ = some (.string a0_2) := (blk_cell BK238.out 2).trans rfl
              have hfz148_0 := blk_frozen BK238.out 0
              have hfz148_1 := blk_frozen BK238.out 1
              have hfz148_2 := blk_frozen BK238.out 2
              go_wp2_with (first | ((with_reducible refine gate_callee (f := 11) rfl ?_); refine goesL_ (some 29) rfl rfl Tryd.func11 (by kernel_rfl) rfl #[.agg #[.int .u8 a1_0, .int .i64 a1_1, .string a1_2], .agg #[.int .u8 a0_0, .int .i64 a0_1, .string a0_2]] rfl (by (try simp only [List.map_toArray, List.map_cons, List.map_nil]); first | done | rfl | (simp only [List.length_drop, List.length_take]; rfl)) ?_; (with_reducible refine (value_Order.calls a1_0 a1_1 a1_2 a0_0 a0_1 a0_2 t244 _ A15.out).mono ?_); rintro e w149 ⟨rfl, hb⟩; refine ⟨_, rfl, ?_⟩; have n0_ := Aside0.mk (blk_below (g := gb238) (o := .cells #[.int .u8 a0_0, .int .i64 a0_1, .string a0_2] 25 (0, 0)) (by (with_reducible repeat (first | refine blk_drewN ?_ _ | refine blk_drew ?_ | refine blk_alloc ?_ _)); exact BK238.out) hb); have n1_ := Aside0.mk (blk_below (g := gb239) (o := .cells #[.int .u8 a1_0, .int .i64 a1_1, .string a1_2] 25 (0, 0)) (by (with_reducible repeat (first | refine blk_drewN ?_ _ | refine blk_drew ?_ | refine blk_alloc ?_ _)); exact BK239.out) hb); have n2_ := Aside0.mk (blk_below (g := gb240) (o := .cells #[.int .u8 a2_0, .int .i64 a2_1, .string a2_2] 25 (0, 0)) (by (with_reducible repeat (first | refine blk_drewN ?_ _ | refine blk_drew ?_ | refine blk_alloc ?_ _)); exact BK240.out) hb); have n3_ := Aside0.mk (below_step (by repeat (first | (with_reducible first | exact HB.out | apply below_alloc | apply pw_below_drewN | apply below_drew1 | refine below_set ?_ GE238.out | refine below_set ?_ GE239.out | refine below_set ?_ GE240.out) | exact HB.out)) hb); clear BK238; clear BK239; clear BK240; clear HB; have BK238 := n0_; have BK239 := n1_; have BK240 := n2_; have HB := n3_; clear n0_ n1_ n2_ n3_; (try clear hb); (try clear hb2); (try clear hk); (try clear hi)))
              go_meet
              case rel => exact ⟨_, (decide (t243 ≥ 0)), (by first | rfl | (simp; done) | (simp [*]; done)), H', ⟨by first | omega | exact Nat.le_refl _⟩, ⟨by (with_reducible repeat (first | refine blk_drewN ?_ _ | refine blk_drew ?_ | refine blk_alloc ?_ _)); exact BK238.out⟩, ⟨by (with_reducible repeat (first | refine blk_drewN ?_ _ | refine blk_drew ?_ | refine blk_alloc ?_ _)); exact BK239.out⟩, ⟨by (with_reducible repeat (first | refine blk_drewN ?_ _ | refine blk_drew ?_ | refine blk_alloc ?_ _)); exact BK240.out⟩, ⟨by repeat (first | (with_reducible first | exact HB.out | apply below_alloc | apply pw_below_drewN | apply below_drew1 | refine below_set ?_ GE238.out | refine below_set ?_ GE239.out | refine below_set ?_ GE240.out) | exact HB.out)⟩⟩
            · rw [if_neg c143] at H
              have c143b0 : decide (t242 ≤ 0) = false := decide_eq_false c143
              clear c143
              have H' := Aside0.mk H
              clear H
              have hnb150 := NB239_238.out
              have hnc150 := NB238_239.out
              have hnb151 := NB239_240.out
              have hnc151 := NB240_239.out
              have hcz152_0 : w14.cell? ⟨gb239, 0, none⟩ = some (.int .u8 a1_0) := (blk_cell BK239.out 0).trans rfl
              have hcz152_1 : w14.cell? ⟨gb239, 1, none⟩ = some (.int .i64 a1_1) := (blk_cell BK239.out 1).trans rfl
              have hcz152_2 : w14.cell? ⟨gb239, 2, none⟩ = some (.string a1_2) := (blk_cell BK239.out 2).trans rfl
              have hfz152_0 := blk_frozen BK239.out 0
              have hfz152_1 := blk_frozen BK239.out 1
              have hfz152_2 := blk_frozen BK239.out 2
              have hnb153 := NB238_240.out
              have hnc153 := NB240_238.out
              have hcz154_0 : w14.cell? ⟨gb238, 0, none⟩ = some (.int .u8 a0_0) := (blk_cell BK238.out 0).trans rfl
              have hcz154_1 : w14.cell? ⟨gb238, 1, none⟩ = some (.int .i64 a0_1) := (blk_cell BK238.out 1).trans rfl
              have hcz154_2 : w14.cell? ⟨gb238, 2, none⟩ = some (.string a0_2) := (blk_cell BK238.out 2).trans rfl
              have hfz154_0 := blk_frozen BK238.out 0
              have hfz154_1 := blk_frozen BK238.out 1
              have hfz154_2 := blk_frozen BK238.out 2
              go_wp2_with (first | ((with_reducible refine gate_callee (f := 11) rfl ?_); refine goesL_ (some 29) rfl rfl Tryd.func11 (by kernel_rfl) rfl #[.agg #[.int .u8 a1_0, .int .i64 a1_1, .string a1_2], .agg #[.int .u8 a0_0, .int .i64 a0_1, .string a0_2]] rfl (by (try simp only [List.map_toArray, List.map_cons, List.map_nil]); first | done | rfl | (simp only [List.length_drop, List.length_take]; rfl)) ?_; (with_reducible refine (value_Order.calls a1_0 a1_1 a1_2 a0_0 a0_1 a0_2 t244 _ A15.out).mono ?_); rintro e w155 ⟨rfl, hb⟩; refine ⟨_, rfl, ?_⟩; have n0_ := Aside0.mk (blk_below (g := gb238) (o := .cells #[.int .u8 a0_0, .int .i64 a0_1, .string a0_2] 25 (0, 0)) (by (with_reducible repeat (first | refine blk_drewN ?_ _ | refine blk_drew ?_ | refine blk_alloc ?_ _)); exact BK238.out) hb); have n1_ := Aside0.mk (blk_below (g := gb239) (o := .cells #[.int .u8 a1_0, .int .i64 a1_1, .string a1_2] 25 (0, 0)) (by (with_reducible repeat (first | refine blk_drewN ?_ _ | refine blk_drew ?_ | refine blk_alloc ?_ _)); exact BK239.out) hb); have n2_ := Aside0.mk (blk_below (g := gb240) (o := .cells #[.int .u8 a2_0, .int .i64 a2_1, .string a2_2] 25 (0, 0)) (by (with_reducible repeat (first | refine blk_drewN ?_ _ | refine blk_drew ?_ | refine blk_alloc ?_ _)); exact BK240.out) hb); have n3_ := Aside0.mk (below_step (by repeat (first | (with_reducible first | exact HB.out | apply below_alloc | apply pw_below_drewN | apply below_drew1 | refine below_set ?_ GE238.out | refine below_set ?_ GE239.out | refine below_set ?_ GE240.out) | exact HB.out)) hb); clear BK238; clear BK239; clear BK240; clear HB; have BK238 := n0_; have BK239 := n1_; have BK240 := n2_; have HB := n3_; clear n0_ n1_ n2_ n3_; (try clear hb); (try clear hb2); (try clear hk); (try clear hi)))
              go_meet
              case rel => exact ⟨_, (false), (by first | rfl | (simp; done) | (simp [*]; done)), H', ⟨by first | omega | exact Nat.le_refl _⟩, ⟨by (with_reducible repeat (first | refine blk_drewN ?_ _ | refine blk_drew ?_ | refine blk_alloc ?_ _)); exact BK238.out⟩, ⟨by (with_reducible repeat (first | refine blk_drewN ?_ _ | refine blk_drew ?_ | refine blk_alloc ?_ _)); exact BK239.out⟩, ⟨by (with_reducible repeat (first | refine blk_drewN ?_ _ | refine blk_drew ?_ | refine blk_alloc ?_ _)); exact BK240.out⟩, ⟨by repeat (first | (with_reducible first | exact HB.out | apply below_alloc | apply pw_below_drewN | apply below_drew1 | refine below_set ?_ GE238.out | refine below_set ?_ GE239.out | refine below_set ?_ GE240.out) | exact HB.out)⟩⟩
          · rw [if_neg c142] at H
            have c142b0 : decide (t241 < 0) = false := decide_eq_false c142
            clear c142
            have H' := Aside0.mk H
            clear H
            have hnb156 := NB239_238.out
            have hnc156 := NB238_239.out
            have hnb157 := NB239_240.out
            have hnc157 := NB240_239.out
            have hcz158_0 : w14.cell? ⟨gb239, 0, none⟩ = some (.int .u8 a1_0) := (blk_cell BK239.out 0).trans rfl
            have hcz158_1 : w14.cell? ⟨gb239, 1, none⟩ = some (.int .i64 a1_1) := (blk_cell BK239.out 1).trans rfl
            have hcz158_2 : w14.cell? ⟨gb239, 2, none⟩ = some (.string a1_2) := (blk_cell BK239.out 2).trans rfl
            have hfz158_0 := blk_frozen BK239.out 0
            have hfz158_1 := blk_frozen BK239.out 1
            have hfz158_2 := blk_frozen BK239.out 2
            have hnb159 := NB238_240.out
            have hnc159 := NB240_238.out
            have hcz160_0 : w14.cell? ⟨gb238, 0, none⟩ = some (.int .u8 a0_0) := (blk_cell BK238.out 0).trans rfl
            have hcz160_1 : w14.cell? ⟨gb238, 1, none⟩ = some (.int .i64 a0_1) := (blk_cell BK238.out 1).trans rfl
            have hcz160_2 : w14.cell? ⟨gb238, 2, none⟩ = some (.string a0_2) := (blk_cell BK238.out 2).trans rfl
            have hfz160_0 := blk_frozen BK238.out 0
            have hfz160_1 := blk_frozen BK238.out 1
            have hfz160_2 := blk_frozen BK238.out 2
            go_wp2_with (first | ((with_reducible refine gate_callee (f := 11) rfl ?_); refine goesL_ (some 29) rfl rfl Tryd.func11 (by kernel_rfl) rfl #[.agg #[.int .u8 a1_0, .int .i64 a1_1, .string a1_2], .agg #[.int .u8 a0_0, .int .i64 a0_1, .string a0_2]] rfl (by (try simp only [List.map_toArray, List.map_cons, List.map_nil]); first | done | rfl | (simp only [List.length_drop, List.length_take]; rfl)) ?_; (with_reducible refine (value_Order.calls a1_0 a1_1 a1_2 a0_0 a0_1 a0_2 t244 _ A15.out).mono ?_); rintro e w161 ⟨rfl, hb⟩; refine ⟨_, rfl, ?_⟩; have n0_ := Aside0.mk (blk_below (g := gb238) (o := .cells #[.int .u8 a0_0, .int .i64 a0_1, .string a0_2] 25 (0, 0)) (by (with_reducible repeat (first | refine blk_drewN ?_ _ | refine blk_drew ?_ | refine blk_alloc ?_ _)); exact BK238.out) hb); have n1_ := Aside0.mk (blk_below (g := gb239) (o := .cells #[.int .u8 a1_0, .int .i64 a1_1, .string a1_2] 25 (0, 0)) (by (with_reducible repeat (first | refine blk_drewN ?_ _ | refine blk_drew ?_ | refine blk_alloc ?_ _)); exact BK239.out) hb); have n2_ := Aside0.mk (blk_below (g := gb240) (o := .cells #[.int .u8 a2_0, .int .i64 a2_1, .string a2_2] 25 (0, 0)) (by (with_reducible repeat (first | refine blk_drewN ?_ _ | refine blk_drew ?_ | refine blk_alloc ?_ _)); exact BK240.out) hb); have n3_ := Aside0.mk (below_step (by repeat (first | (with_reducible first | exact HB.out | apply below_alloc | apply pw_below_drewN | apply below_drew1 | refine below_set ?_ GE238.out | refine below_set ?_ GE239.out | refine below_set ?_ GE240.out) | exact HB.out)) hb); clear BK238; clear BK239; clear BK240; clear HB; have BK238 := n0_; have BK239 := n1_; have BK240 := n2_; have HB := n3_; clear n0_ n1_ n2_ n3_; (try clear hb); (try clear hb2); (try clear hk); (try clear hi)))
            go_meet
            case rel => exact ⟨_, (false), (by first | rfl | (simp; done) | (simp [*]; done)), H', ⟨by first | omega | exact Nat.le_refl _⟩, ⟨by (with_reducible repeat (first | refine blk_drewN ?_ _ | refine blk_drew ?_ | refine blk_alloc ?_ _)); exact BK238.out⟩, ⟨by (with_reducible repeat (first | refine blk_drewN ?_ _ | refine blk_drew ?_ | refine blk_alloc ?_ _)); exact BK239.out⟩, ⟨by (with_reducible repeat (first | refine blk_drewN ?_ _ | refine blk_drew ?_ | refine blk_alloc ?_ _)); exact BK240.out⟩, ⟨by repeat (first | (with_reducible first | exact HB.out | apply below_alloc | apply pw_below_drewN | apply below_drew1 | refine below_set ?_ GE238.out | refine below_set ?_ GE239.out | refine below_set ?_ GE240.out) | exact HB.out)⟩⟩
    · rw [if_neg c16] at H
      have c16b0 : (t244 == (wrap64 (-t241))) = false := beq_eq_false_iff_ne.mpr c16
      have c16b1 : (t244 != (wrap64 (-t241))) = true := bne_iff_ne.mpr c16
      (first | rw [c16b0] | (simp only [i64_w, i32_w]; rw [c16b0]) | skip)
      have H' := Aside0.mk H
      clear H
      have hnb162 := NB239_238.out
      have hnc162 := NB238_239.out
      have hnb163 := NB239_240.out
      have hnc163 := NB240_239.out
      have hcz164_0 : w14.cell? ⟨gb239, 0, none⟩ = some (.int .u8 a1_0) := (blk_cell BK239.out 0).trans rfl
      have hcz164_1 : w14.cell? ⟨gb239, 1, none⟩ = some (.int .i64 a1_1) := (blk_cell BK239.out 1).trans rfl
      have hcz164_2 : w14.cell? ⟨gb239, 2, none⟩ = some (.string a1_2) := (blk_cell BK239.out 2).trans rfl
      have hfz164_0 := blk_frozen BK239.out 0
      have hfz164_1 := blk_frozen BK239.out 1
      have hfz164_2 := blk_frozen BK239.out 2
      have hnb165 := NB238_240.out
      have hnc165 := NB240_238.out
      have hcz166_0 : w14.cell? ⟨gb238, 0, none⟩ = some (.int .u8 a0_0) := (blk_cell BK238.out 0).trans rfl
      have hcz166_1 : w14.cell? ⟨gb238, 1, none⟩ = some (.int .i64 a0_1) := (blk_cell BK238.out 1).trans rfl
      have hcz166_2 : w14.cell? ⟨gb238, 2, none⟩ = some (.string a0_2) := (blk_cell BK238.out 2).trans rfl
      have hfz166_0 := blk_frozen BK238.out 0
      have hfz166_1 := blk_frozen BK238.out 1
      have hfz166_2 := blk_frozen BK238.out 2
      go_wp2_with (first | ((with_reducible refine gate_callee (f := 11) rfl ?_); refine goesL_ (some 29) rfl rfl Tryd.func11 (by kernel_rfl) rfl #[.agg #[.int .u8 a1_0, .int .i64 a1_1, .string a1_2], .agg #[.int .u8 a0_0, .int .i64 a0_1, .string a0_2]] rfl (by (try simp only [List.map_toArray, List.map_cons, List.map_nil]); first | done | rfl | (simp only [List.length_drop, List.length_take]; rfl)) ?_; (with_reducible refine (value_Order.calls a1_0 a1_1 a1_2 a0_0 a0_1 a0_2 t244 _ A15.out).mono ?_); rintro e w167 ⟨rfl, hb⟩; refine ⟨_, rfl, ?_⟩; have n0_ := Aside0.mk (blk_below (g := gb238) (o := .cells #[.int .u8 a0_0, .int .i64 a0_1, .string a0_2] 25 (0, 0)) (by (with_reducible repeat (first | refine blk_drewN ?_ _ | refine blk_drew ?_ | refine blk_alloc ?_ _)); exact BK238.out) hb); have n1_ := Aside0.mk (blk_below (g := gb239) (o := .cells #[.int .u8 a1_0, .int .i64 a1_1, .string a1_2] 25 (0, 0)) (by (with_reducible repeat (first | refine blk_drewN ?_ _ | refine blk_drew ?_ | refine blk_alloc ?_ _)); exact BK239.out) hb); have n2_ := Aside0.mk (blk_below (g := gb240) (o := .cells #[.int .u8 a2_0, .int .i64 a2_1, .string a2_2] 25 (0, 0)) (by (with_reducible repeat (first | refine blk_drewN ?_ _ | refine blk_drew ?_ | refine blk_alloc ?_ _)); exact BK240.out) hb); have n3_ := Aside0.mk (below_step (by repeat (first | (with_reducible first | exact HB.out | apply below_alloc | apply pw_below_drewN | apply below_drew1 | refine below_set ?_ GE238.out | refine below_set ?_ GE239.out | refine below_set ?_ GE240.out) | exact HB.out)) hb); clear BK238; clear BK239; clear BK240; clear HB; have BK238 := n0_; have BK239 := n1_; have BK240 := n2_; have HB := n3_; clear n0_ n1_ n2_ n3_; (try clear hb); (try clear hb2); (try clear hk); (try clear hi)))
      go_meet
      case rel => exact ⟨_, (true), (by first | rfl | (simp; done) | (simp [*]; done)), H', ⟨by first | omega | exact Nat.le_refl _⟩, ⟨by (with_reducible repeat (first | refine blk_drewN ?_ _ | refine blk_drew ?_ | refine blk_alloc ?_ _)); exact BK238.out⟩, ⟨by (with_reducible repeat (first | refine blk_drewN ?_ _ | refine blk_drew ?_ | refine blk_alloc ?_ _)); exact BK239.out⟩, ⟨by (with_reducible repeat (first | refine blk_drewN ?_ _ | refine blk_drew ?_ | refine blk_alloc ?_ _)); exact BK240.out⟩, ⟨by repeat (first | (with_reducible first | exact HB.out | apply below_alloc | apply pw_below_drewN | apply below_drew1 | refine below_set ?_ GE238.out | refine below_set ?_ GE239.out | refine below_set ?_ GE240.out) | exact HB.out)⟩⟩
  case rest =>
    clear HC7
    try clear c1
    try clear c2
    try clear p2
    try clear c3
    try clear c4
    try clear c5
    try clear c6
    try clear p6
    try clear c7
    try clear c8
    try clear c9
    try clear c10
    try clear c11
    try clear c12
    try clear c13
    try clear c14
    try clear c15
    try clear c16
    try clear c16b0
    try clear c16b1
    try clear c17
    try clear c17b0
    try clear c18
    try clear c18b0
    try clear c19
    try clear c19b0
    try clear c20
    try clear c21
    try clear c23
    try clear c26
    try clear c26b0
    try clear c26b1
    try clear c27
    try clear c27b0
    try clear c28
    try clear c29
    try clear c31
    try clear c36
    try clear c36b0
    try clear c37
    try clear c38
    try clear c40
    try clear c45
    try clear c46
    try clear c48
    try clear c53
    try clear c53b0
    try clear c54
    try clear c55
    try clear c57
    try clear c60
    try clear c61
    try clear c63
    try clear p64
    try clear c66
    try clear c66b0
    try clear c66b1
    try clear c67
    try clear c67b0
    try clear c68
    try clear c69
    try clear c71
    try clear c76
    try clear c76b0
    try clear c77
    try clear c78
    try clear c80
    try clear c85
    try clear c86
    try clear c88
    try clear c93
    try clear c93b0
    try clear c94
    try clear c95
    try clear c97
    try clear c100
    try clear c101
    try clear c103
    try clear c106
    try clear c106b0
    try clear c106b1
    try clear c107
    try clear c107b0
    try clear c108
    try clear c109
    try clear c111
    try clear c116
    try clear c116b0
    try clear c117
    try clear c117b0
    try clear c118
    try clear c119
    try clear c121
    try clear c126
    try clear c127
    try clear c129
    try clear c134
    try clear c135
    try clear c137
    try clear c142
    try clear c142b0
    try clear c143
    try clear c143b0
    try clear c144
    try clear c145
    try clear c147
    try clear c150
    try clear c151
    try clear c153
    try clear c156
    try clear c157
    try clear c159
    try clear c162
    try clear c163
    try clear c165
    try clear hcz102_0
    try clear hcz102_1
    try clear hcz102_2
    try clear hcz104_0
    try clear hcz104_1
    try clear hcz104_2
    try clear hcz110_0
    try clear hcz110_1
    try clear hcz110_2
    try clear hcz112_0
    try clear hcz112_1
    try clear hcz112_2
    try clear hcz114_0
    try clear hcz114_1
    try clear hcz114_2
    try clear hcz115_0
    try clear hcz115_1
    try clear hcz115_2
    try clear hcz120_0
    try clear hcz120_1
    try clear hcz120_2
    try clear hcz122_0
    try clear hcz122_1
    try clear hcz122_2
    try clear hcz124_0
    try clear hcz124_1
    try clear hcz124_2
    try clear hcz125_0
    try clear hcz125_1
    try clear hcz125_2
    try clear hcz128_0
    try clear hcz128_1
    try clear hcz128_2
    try clear hcz130_0
    try clear hcz130_1
    try clear hcz130_2
    try clear hcz132_0
    try clear hcz132_1
    try clear hcz132_2
    try clear hcz133_0
    try clear hcz133_1
    try clear hcz133_2
    try clear hcz136_0
    try clear hcz136_1
    try clear hcz136_2
    try clear hcz138_0
    try clear hcz138_1
    try clear hcz138_2
    try clear hcz140_0
    try clear hcz140_1
    try clear hcz140_2
    try clear hcz141_0
    try clear hcz141_1
    try clear hcz141_2
    try clear hcz146_0
    try clear hcz146_1
    try clear hcz146_2
    try clear hcz148_0
    try clear hcz148_1
    try clear hcz148_2
    try clear hcz152_0
    try clear hcz152_1
    try clear hcz152_2
    try clear hcz154_0
    try clear hcz154_1
    try clear hcz154_2
    try clear hcz158_0
    try clear hcz158_1
    try clear hcz158_2
    try clear hcz160_0
    try clear hcz160_1
    try clear hcz160_2
    try clear hcz164_0
    try clear hcz164_1
    try clear hcz164_2
    try clear hcz166_0
    try clear hcz166_1
    try clear hcz166_2
    try clear hcz22_0
    try clear hcz22_1
    try clear hcz22_2
    try clear hcz24_0
    try clear hcz24_1
    try clear hcz24_2
    try clear hcz30_0
    try clear hcz30_1
    try clear hcz30_2
    try clear hcz32_0
    try clear hcz32_1
    try clear hcz32_2
    try clear hcz34_0
    try clear hcz34_1
    try clear hcz34_2
    try clear hcz35_0
    try clear hcz35_1
    try clear hcz35_2
    try clear hcz39_0
    try clear hcz39_1
    try clear hcz39_2
    try clear hcz41_0
    try clear hcz41_1
    try clear hcz41_2
    try clear hcz43_0
    try clear hcz43_1
    try clear hcz43_2
    try clear hcz44_0
    try clear hcz44_1
    try clear hcz44_2
    try clear hcz47_0
    try clear hcz47_1
    try clear hcz47_2
    try clear hcz49_0
    try clear hcz49_1
    try clear hcz49_2
    try clear hcz51_0
    try clear hcz51_1
    try clear hcz51_2
    try clear hcz52_0
    try clear hcz52_1
    try clear hcz52_2
    try clear hcz56_0
    try clear hcz56_1
    try clear hcz56_2
    try clear hcz58_0
    try clear hcz58_1
    try clear hcz58_2
    try clear hcz62_0
    try clear hcz62_1
    try clear hcz62_2
    try clear hcz64_0
    try clear hcz64_1
    try clear hcz64_2
    try clear hcz70_0
    try clear hcz70_1
    try clear hcz70_2
    try clear hcz72_0
    try clear hcz72_1
    try clear hcz72_2
    try clear hcz74_0
    try clear hcz74_1
    try clear hcz74_2
    try clear hcz75_0
    try clear hcz75_1
    try clear hcz75_2
    try clear hcz79_0
    try clear hcz79_1
    try clear hcz79_2
    try clear hcz81_0
    try clear hcz81_1
    try clear hcz81_2
    try clear hcz83_0
    try clear hcz83_1
    try clear hcz83_2
    try clear hcz84_0
    try clear hcz84_1
    try clear hcz84_2
    try clear hcz87_0
    try clear hcz87_1
    try clear hcz87_2
    try clear hcz89_0
    try clear hcz89_1
    try clear hcz89_2
    try clear hcz91_0
    try clear hcz91_1
    try clear hcz91_2
    try clear hcz92_0
    try clear hcz92_1
    try clear hcz92_2
    try clear hcz96_0
    try clear hcz96_1
    try clear hcz96_2
    try clear hcz98_0
    try clear hcz98_1
    try clear hcz98_2
    try clear hfz102_0
    try clear hfz102_1
    try clear hfz102_2
    try clear hfz104_0
    try clear hfz104_1
    try clear hfz104_2
    try clear hfz110_0
    try clear hfz110_1
    try clear hfz110_2
    try clear hfz112_0
    try clear hfz112_1
    try clear hfz112_2
    try clear hfz114_0
    try clear hfz114_1
    try clear hfz114_2
    try clear hfz115_0
    try clear hfz115_1
    try clear hfz115_2
    try clear hfz120_0
    try clear hfz120_1
    try clear hfz120_2
    try clear hfz122_0
    try clear hfz122_1
    try clear hfz122_2
    try clear hfz124_0
    try clear hfz124_1
    try clear hfz124_2
    try clear hfz125_0
    try clear hfz125_1
    try clear hfz125_2
    try clear hfz128_0
    try clear hfz128_1
    try clear hfz128_2
    try clear hfz130_0
    try clear hfz130_1
    try clear hfz130_2
    try clear hfz132_0
    try clear hfz132_1
    try clear hfz132_2
    try clear hfz133_0
    try clear hfz133_1
    try clear hfz133_2
    try clear hfz136_0
    try clear hfz136_1
    try clear hfz136_2
    try clear hfz138_0
    try clear hfz138_1
    try clear hfz138_2
    try clear hfz140_0
    try clear hfz140_1
    try clear hfz140_2
    try clear hfz141_0
    try clear hfz141_1
    try clear hfz141_2
    try clear hfz146_0
    try clear hfz146_1
    try clear hfz146_2
    try clear hfz148_0
    try clear hfz148_1
    try clear hfz148_2
    try clear hfz152_0
    try clear hfz152_1
    try clear hfz152_2
    try clear hfz154_0
    try clear hfz154_1
    try clear hfz154_2
    try clear hfz158_0
    try clear hfz158_1
    try clear hfz158_2
    try clear hfz160_0
    try clear hfz160_1
    try clear hfz160_2
    try clear hfz164_0
    try clear hfz164_1
    try clear hfz164_2
    try clear hfz166_0
    try clear hfz166_1
    try clear hfz166_2
    try clear hfz22_0
    try clear hfz22_1
    try clear hfz22_2
    try clear hfz24_0
    try clear hfz24_1
    try clear hfz24_2
    try clear hfz30_0
    try clear hfz30_1
    try clear hfz30_2
    try clear hfz32_0
    try clear hfz32_1
    try clear hfz32_2
    try clear hfz34_0
    try clear hfz34_1
    try clear hfz34_2
    try clear hfz35_0
    try clear hfz35_1
    try clear hfz35_2
    try clear hfz39_0
    try clear hfz39_1
    try clear hfz39_2
    try clear hfz41_0
    try clear hfz41_1
    try clear hfz41_2
    try clear hfz43_0
    try clear hfz43_1
    try clear hfz43_2
    try clear hfz44_0
    try clear hfz44_1
    try clear hfz44_2
    try clear hfz47_0
    try clear hfz47_1
    try clear hfz47_2
    try clear hfz49_0
    try clear hfz49_1
    try clear hfz49_2
    try clear hfz51_0
    try clear hfz51_1
    try clear hfz51_2
    try clear hfz52_0
    try clear hfz52_1
    try clear hfz52_2
    try clear hfz56_0
    try clear hfz56_1
    try clear hfz56_2
    try clear hfz58_0
    try clear hfz58_1
    try clear hfz58_2
    try clear hfz62_0
    try clear hfz62_1
    try clear hfz62_2
    try clear hfz64_0
    try clear hfz64_1
    try clear hfz64_2
    try clear hfz70_0
    try clear hfz70_1
    try clear hfz70_2
    try clear hfz72_0
    try clear hfz72_1
    try clear hfz72_2
    try clear hfz74_0
    try clear hfz74_1
    try clear hfz74_2
    try clear hfz75_0
    try clear hfz75_1
    try clear hfz75_2
    try clear hfz79_0
    try clear hfz79_1
    try clear hfz79_2
    try clear hfz81_0
    try clear hfz81_1
    try clear hfz81_2
    try clear hfz83_0
    try clear hfz83_1
    try clear hfz83_2
    try clear hfz84_0
    try clear hfz84_1
    try clear hfz84_2
    try clear hfz87_0
    try clear hfz87_1
    try clear hfz87_2
    try clear hfz89_0
    try clear hfz89_1
    try clear hfz89_2
    try clear hfz91_0
    try clear hfz91_1
    try clear hfz91_2
    try clear hfz92_0
    try clear hfz92_1
    try clear hfz92_2
    try clear hfz96_0
    try clear hfz96_1
    try clear hfz96_2
    try clear hfz98_0
    try clear hfz98_1
    try clear hfz98_2
    obtain ⟨kq, x65_6, rfl, HA, HJ6, BK238, BK239, BK240, HB⟩ := hcut
    cases kq with
    | zero => exact absurd HA.out (by simp [chancerylaw17_ValueOrder.j0])
    | succ kj6 =>
      have H := HA.out
      clear HA
      simp only [chancerylaw17_ValueOrder.j0] at H
      by_cases c168 : x65_6 = true
      · subst c168
        have H1 : (some false) = some r := by rw [if_pos rfl] at H; exact H
        clear H
        have H := H1
        clear H1
        obtain rfl := Option.some.inj H
        go_wp2
        go_ret
        exact ⟨by first | rfl | (simp [errW_none, errW_some] <;> rfl) | (simp [*, errW_none, errW_some] <;> rfl), by repeat (first | (with_reducible first | exact HB.out | apply below_alloc | apply pw_below_drewN | apply below_drew1 | refine below_set ?_ GE238.out | refine below_set ?_ GE239.out | refine below_set ?_ GE240.out) | exact HB.out)⟩
      · replace c168 := Bool.eq_false_iff.mpr c168
        subst c168
        have H1 : ((value_Sub.f a0_0 a0_1 a0_2 a1_0 a1_1 a1_2).bind fun bt245 => ((value_Compare.f 9 a0_0 a0_1 a0_2 a1_0 a1_1 a1_2).bind fun bt250 => ((value_Compare.f 7 a0_0 a0_1 a0_2 a1_0 a1_1 a1_2).bind fun bt252 => ((value_Compare.f 8 a0_0 a0_1 a0_2 a1_0 a1_1 a1_2).bind fun bt254 => (if bt250.2 = bt252.2 then (if bt252.2 = bt254.2 then (if bt250.2 = 0 then ((value_Not.f bt252.1).bind fun t256 => (chancerylaw17_ValueOrder.j1 kj6 bt245.2.2.2 bt250.1 bt250.2 bt252.1 (bt254.1 != t256) bt245.1 bt245.2.1 bt245.2.2.1)) else (chancerylaw17_ValueOrder.j1 kj6 bt245.2.2.2 bt250.1 bt250.2 bt252.1 false bt245.1 bt245.2.1 bt245.2.2.1)) else (chancerylaw17_ValueOrder.j1 kj6 bt245.2.2.2 bt250.1 bt250.2 bt252.1 true bt245.1 bt245.2.1 bt245.2.2.1)) else (chancerylaw17_ValueOrder.j1 kj6 bt245.2.2.2 bt250.1 bt250.2 bt252.1 true bt245.1 bt245.2.1 bt245.2.2.1)))))) = some r := by rw [if_neg (show ¬ (false = true) by decide)] at H; exact H
        clear H
        have H := H1
        clear H1
        replace H := Option.bind_eq_some_iff.mp H
        obtain ⟨⟨t245, t246, t247, t248⟩, A1690, H⟩ := H
        replace H : ((value_Compare.f 9 a0_0 a0_1 a0_2 a1_0 a1_1 a1_2).bind fun bt250 => ((value_Compare.f 7 a0_0 a0_1 a0_2 a1_0 a1_1 a1_2).bind fun bt252 => ((value_Compare.f 8 a0_0 a0_1 a0_2 a1_0 a1_1 a1_2).bind fun bt254 => (if bt250.2 = bt252.2 then (if bt252.2 = bt254.2 then (if bt250.2 = 0 then ((value_Not.f bt252.1).bind fun t256 => (chancerylaw17_ValueOrder.j1 kj6 t248 bt250.1 bt250.2 bt252.1 (bt254.1 != t256) t245 t246 t247)) else (chancerylaw17_ValueOrder.j1 kj6 t248 bt250.1 bt250.2 bt252.1 false t245 t246 t247)) else (chancerylaw17_ValueOrder.j1 kj6 t248 bt250.1 bt250.2 bt252.1 true t245 t246 t247)) else (chancerylaw17_ValueOrder.j1 kj6 t248 bt250.1 bt250.2 bt252.1 true t245 t246 t247))))) = some r := H
        have A169 := Aside0.mk A1690
        clear A1690
        replace H := Option.bind_eq_some_iff.mp H
        obtain ⟨⟨t250, t251⟩, A1700, H⟩ := H
        replace H : ((value_Compare.f 7 a0_0 a0_1 a0_2 a1_0 a1_1 a1_2).bind fun bt252 => ((value_Compare.f 8 a0_0 a0_1 a0_2 a1_0 a1_1 a1_2).bind fun bt254 => (if t251 = bt252.2 then (if bt252.2 = bt254.2 then (if t251 = 0 then ((value_Not.f bt252.1).bind fun t256 => (chancerylaw17_ValueOrder.j1 kj6 t248 t250 t251 bt252.1 (bt254.1 != t256) t245 t246 t247)) else (chancerylaw17_ValueOrder.j1 kj6 t248 t250 t251 bt252.1 false t245 t246 t247)) else (chancerylaw17_ValueOrder.j1 kj6 t248 t250 t251 bt252.1 true t245 t246 t247)) else (chancerylaw17_ValueOrder.j1 kj6 t248 t250 t251 bt252.1 true t245 t246 t247)))) = some r := H
        have A170 := Aside0.mk A1700
        clear A1700
        replace H := Option.bind_eq_some_iff.mp H
        obtain ⟨⟨t252, t253⟩, A1710, H⟩ := H
        replace H : ((value_Compare.f 8 a0_0 a0_1 a0_2 a1_0 a1_1 a1_2).bind fun bt254 => (if t251 = t253 then (if t253 = bt254.2 then (if t251 = 0 then ((value_Not.f t252).bind fun t256 => (chancerylaw17_ValueOrder.j1 kj6 t248 t250 t251 t252 (bt254.1 != t256) t245 t246 t247)) else (chancerylaw17_ValueOrder.j1 kj6 t248 t250 t251 t252 false t245 t246 t247)) else (chancerylaw17_ValueOrder.j1 kj6 t248 t250 t251 t252 true t245 t246 t247)) else (chancerylaw17_ValueOrder.j1 kj6 t248 t250 t251 t252 true t245 t246 t247))) = some r := H
        have A171 := Aside0.mk A1710
        clear A1710
        replace H := Option.bind_eq_some_iff.mp H
        obtain ⟨⟨t254, t255⟩, A1720, H⟩ := H
        replace H : (if t251 = t253 then (if t253 = t255 then (if t251 = 0 then ((value_Not.f t252).bind fun t256 => (chancerylaw17_ValueOrder.j1 kj6 t248 t250 t251 t252 (t254 != t256) t245 t246 t247)) else (chancerylaw17_ValueOrder.j1 kj6 t248 t250 t251 t252 false t245 t246 t247)) else (chancerylaw17_ValueOrder.j1 kj6 t248 t250 t251 t252 true t245 t246 t247)) else (chancerylaw17_ValueOrder.j1 kj6 t248 t250 t251 t252 true t245 t246 t247)) = some r := H
        have A172 := Aside0.mk A1720
        clear A1720
        have HC173 := Aside0.mk H
        clear H
        have hnb174 := NB238_239.out
        have hnc174 := NB239_238.out
        have hnb175 := NB238_240.out
        have hnc175 := NB240_238.out
        have hcz176_0 : wc.cell? ⟨gb238, 0, none⟩ = some (.int .u8 a0_0) := (blk_cell BK238.out 0).trans rfl
        have hcz176_1 : wc.cell? ⟨gb238, 1, none⟩ = some (.int .i64 a0_1) := (blk_cell BK238.out 1).trans rfl
        have hcz176_2 : wc.cell? ⟨gb238, 2, none⟩ = some (.string a0_2) := (blk_cell BK238.out 2).trans rfl
        have hfz176_0 := blk_frozen BK238.out 0
        have hfz176_1 := blk_frozen BK238.out 1
        have hfz176_2 := blk_frozen BK238.out 2
        have hnb177 := NB239_240.out
        have hnc177 := NB240_239.out
        have hcz178_0 : wc.cell? ⟨gb239, 0, none⟩ = some (.int .u8 a1_0) := (blk_cell BK239.out 0).trans rfl
        have hcz178_1 : wc.cell? ⟨gb239, 1, none⟩ = some (.int .i64 a1_1) := (blk_cell BK239.out 1).trans rfl
        have hcz178_2 : wc.cell? ⟨gb239, 2, none⟩ = some (.string a1_2) := (blk_cell BK239.out 2).trans rfl
        have hfz178_0 := blk_frozen BK239.out 0
        have hfz178_1 := blk_frozen BK239.out 1
        have hfz178_2 := blk_frozen BK239.out 2
        go_upto_region 8 with (first | ((with_reducible refine gate_callee (f := 17) rfl ?_); refine goesL_ (some 69) rfl rfl Tryd.func17 (by kernel_rfl) rfl #[.agg #[.int .u8 a0_0, .int .i64 a0_1, .string a0_2], .agg #[.int .u8 a1_0, .int .i64 a1_1, .string a1_2]] rfl (by (try simp only [List.map_toArray, List.map_cons, List.map_nil]); first | done | rfl | (simp only [List.length_drop, List.length_take]; rfl)) ?_; (with_reducible refine (value_Sub.calls a0_0 a0_1 a0_2 a1_0 a1_1 a1_2 t245 t246 t247 t248 _ A169.out).mono ?_); rintro e w179 ⟨rfl, hb⟩; refine ⟨_, rfl, ?_⟩; have n0_ := Aside0.mk (blk_below (g := gb238) (o := .cells #[.int .u8 a0_0, .int .i64 a0_1, .string a0_2] 25 (0, 0)) (by (with_reducible repeat (first | refine blk_drewN ?_ _ | refine blk_drew ?_ | refine blk_alloc ?_ _)); exact BK238.out) hb); have n1_ := Aside0.mk (blk_below (g := gb239) (o := .cells #[.int .u8 a1_0, .int .i64 a1_1, .string a1_2] 25 (0, 0)) (by (with_reducible repeat (first | refine blk_drewN ?_ _ | refine blk_drew ?_ | refine blk_alloc ?_ _)); exact BK239.out) hb); have n2_ := Aside0.mk (blk_below (g := gb240) (o := .cells #[.int .u8 a2_0, .int .i64 a2_1, .string a2_2] 25 (0, 0)) (by (with_reducible repeat (first | refine blk_drewN ?_ _ | refine blk_drew ?_ | refine blk_alloc ?_ _)); exact BK240.out) hb); have n3_ := Aside0.mk (below_step (by repeat (first | (with_reducible first | exact HB.out | apply below_alloc | apply pw_below_drewN | apply below_drew1 | refine below_set ?_ GE238.out | refine below_set ?_ GE239.out | refine below_set ?_ GE240.out) | exact HB.out)) hb); clear BK238; clear BK239; clear BK240; clear HB; have BK238 := n0_; have BK239 := n1_; have BK240 := n2_; have HB := n3_; clear n0_ n1_ n2_ n3_; (try clear hb); (try clear hb2); (try clear hk); (try clear hi)) | ((with_reducible refine gate_dst (N := 10) rfl ?_); refine box_event ?hg (N := 10) ?hd (cs := #[.int .u8 0, .int .i64 0, .string (⟨#[]⟩ : ByteArray)]) (t := 25) ?hr ?_; (case hd => rfl); (case hg => rfl); (case hr => first | (go_simp; done) | (go_simp; rfl)); intro gb249 hg w180 hbox hb; have n0_ := Aside0.mk (blk_below (g := gb238) (o := .cells #[.int .u8 a0_0, .int .i64 a0_1, .string a0_2] 25 (0, 0)) (by (with_reducible repeat (first | refine blk_drewN ?_ _ | refine blk_drew ?_ | refine blk_alloc ?_ _)); exact BK238.out) hb); have n1_ := Aside0.mk (blk_below (g := gb239) (o := .cells #[.int .u8 a1_0, .int .i64 a1_1, .string a1_2] 25 (0, 0)) (by (with_reducible repeat (first | refine blk_drewN ?_ _ | refine blk_drew ?_ | refine blk_alloc ?_ _)); exact BK239.out) hb); have n2_ := Aside0.mk (blk_below (g := gb240) (o := .cells #[.int .u8 a2_0, .int .i64 a2_1, .string a2_2] 25 (0, 0)) (by (with_reducible repeat (first | refine blk_drewN ?_ _ | refine blk_drew ?_ | refine blk_alloc ?_ _)); exact BK240.out) hb); have n3_ := Aside0.mk (below_step (by repeat (first | (with_reducible first | exact HB.out | apply below_alloc | apply pw_below_drewN | apply below_drew1 | refine below_set ?_ GE238.out | refine below_set ?_ GE239.out | refine below_set ?_ GE240.out) | exact HB.out)) hb); have n4_ := Aside0.mk (hbox); have n5_ := Aside0.mk ((by rw [hg]; exact (below_size (by repeat (first | (with_reducible first | exact HB.out | apply below_alloc | apply pw_below_drewN | apply below_drew1 | refine below_set ?_ GE238.out | refine below_set ?_ GE239.out | refine below_set ?_ GE240.out) | exact HB.out))) : w.heap.size ≤ gb249)); have n6_ := Aside0.mk ((by rw [hg]; exact (below_size (by repeat (first | (with_reducible first | exact HB.out | apply below_alloc | apply pw_below_drewN | apply below_drew1 | refine below_set ?_ GE238.out | refine below_set ?_ GE239.out | refine below_set ?_ GE240.out) | exact HB.out))) : w.heap.size ≤ gb249)); have n7_ := Aside0.mk ((by rw [hg]; exact Nat.ne_of_lt (blk_lt (g := gb238) (o := .cells #[.int .u8 a0_0, .int .i64 a0_1, .string a0_2] 25 (0, 0)) (by (with_reducible repeat (first | refine blk_drewN ?_ _ | refine blk_drew ?_ | refine blk_alloc ?_ _)); exact BK238.out)) : gb238 ≠ gb249)); have n8_ := Aside0.mk ((by rw [hg]; exact Nat.ne_of_gt (blk_lt (g := gb238) (o := .cells #[.int .u8 a0_0, .int .i64 a0_1, .string a0_2] 25 (0, 0)) (by (with_reducible repeat (first | refine blk_drewN ?_ _ | refine blk_drew ?_ | refine blk_alloc ?_ _)); exact BK238.out)) : gb249 ≠ gb238)); have n9_ := Aside0.mk ((by rw [hg]; exact Nat.ne_of_lt (blk_lt (g := gb239) (o := .cells #[.int .u8 a1_0, .int .i64 a1_1, .string a1_2] 25 (0, 0)) (by (with_reducible repeat (first | refine blk_drewN ?_ _ | refine blk_drew ?_ | refine blk_alloc ?_ _)); exact BK239.out)) : gb239 ≠ gb249)); have n10_ := Aside0.mk ((by rw [hg]; exact Nat.ne_of_gt (blk_lt (g := gb239) (o := .cells #[.int .u8 a1_0, .int .i64 a1_1, .string a1_2] 25 (0, 0)) (by (with_reducible repeat (first | refine blk_drewN ?_ _ | refine blk_drew ?_ | refine blk_alloc ?_ _)); exact BK239.out)) : gb249 ≠ gb239)); have n11_ := Aside0.mk ((by rw [hg]; exact Nat.ne_of_lt (blk_lt (g := gb240) (o := .cells #[.int .u8 a2_0, .int .i64 a2_1, .string a2_2] 25 (0, 0)) (by (with_reducible repeat (first | refine blk_drewN ?_ _ | refine blk_drew ?_ | refine blk_alloc ?_ _)); exact BK240.out)) : gb240 ≠ gb249)); have n12_ := Aside0.mk ((by rw [hg]; exact Nat.ne_of_gt (blk_lt (g := gb240) (o := .cells #[.int .u8 a2_0, .int .i64 a2_1, .string a2_2] 25 (0, 0)) (by (with_reducible repeat (first | refine blk_drewN ?_ _ | refine blk_drew ?_ | refine blk_alloc ?_ _)); exact BK240.out)) : gb249 ≠ gb240)); clear BK238; clear BK239; clear BK240; clear HB; have BK238 := n0_; have BK239 := n1_; have BK240 := n2_; have HB := n3_; have BK249 := n4_; have GW249 := n5_; have GE249 := n6_; have NB238_249 := n7_; have NB249_238 := n8_; have NB239_249 := n9_; have NB249_239 := n10_; have NB240_249 := n11_; have NB249_240 := n12_; clear n0_ n1_ n2_ n3_ n4_ n5_ n6_ n7_ n8_ n9_ n10_ n11_ n12_; clear hb hbox hg; have hnb181 := NB249_238.out; have hnc181 := NB238_249.out; have hnb182 := NB249_239.out; have hnc182 := NB239_249.out; have hnb183 := NB249_240.out; have hnc183 := NB240_249.out; have hcz184_0 : w180.cell? ⟨gb249, 0, none⟩ = some (.int .u8 0) := (blk_cell BK249.out 0).trans rfl; have hcz184_1 : w180.cell? ⟨gb249, 1, none⟩ = some (.int .i64 0) := (blk_cell BK249.out 1).trans rfl; have hcz184_2 : w180.cell? ⟨gb249, 2, none⟩ = some (.string (⟨#[]⟩ : ByteArray)) := (blk_cell BK249.out 2).trans rfl; have hfz184_0 := blk_frozen BK249.out 0; have hfz184_1 := blk_frozen BK249.out 1; have hfz184_2 := blk_frozen BK249.out 2; have hcz185_0 : w180.cell? ⟨gb238, 0, none⟩ = some (.int .u8 a0_0) := (blk_cell BK238.out 0).trans rfl; have hcz185_1 : w180.cell? ⟨gb238, 1, none⟩ = some (.int .i64 a0_1) := (blk_cell BK238.out 1).trans rfl; have hcz185_2 : w180.cell? ⟨gb238, 2, none⟩ = some (.string a0_2) := (blk_cell BK238.out 2).trans rfl; have hfz185_0 := blk_frozen BK238.out 0; have hfz185_1 := blk_frozen BK238.out 1; have hfz185_2 := blk_frozen BK238.out 2; have hcz186_0 : w180.cell? ⟨gb239, 0, none⟩ = some (.int .u8 a1_0) := (blk_cell BK239.out 0).trans rfl; have hcz186_1 : w180.cell? ⟨gb239, 1, none⟩ = some (.int .i64 a1_1) := (blk_cell BK239.out 1).trans rfl; have hcz186_2 : w180.cell? ⟨gb239, 2, none⟩ = some (.string a1_2) := (blk_cell BK239.out 2).trans rfl; have hfz186_0 := blk_frozen BK239.out 0; have hfz186_1 := blk_frozen BK239.out 1; have hfz186_2 := blk_frozen BK239.out 2) | ((with_reducible refine gate_callee (f := 9) rfl ?_); refine goesL_ (some 75) rfl rfl Tryd.func9 (by kernel_rfl) rfl #[.int .u8 9, .agg #[.int .u8 a0_0, .int .i64 a0_1, .string a0_2], .agg #[.int .u8 a1_0, .int .i64 a1_1, .string a1_2]] rfl (by (try simp only [List.map_toArray, List.map_cons, List.map_nil]); first | done | rfl | (simp only [List.length_drop, List.length_take]; rfl)) ?_; (with_reducible refine (value_Compare.calls 9 a0_0 a0_1 a0_2 a1_0 a1_1 a1_2 t250 t251 _ A170.out).mono ?_); rintro e w187 ⟨rfl, hb⟩; refine ⟨_, rfl, ?_⟩; have n0_ := Aside0.mk (blk_below (g := gb238) (o := .cells #[.int .u8 a0_0, .int .i64 a0_1, .string a0_2] 25 (0, 0)) (by (with_reducible repeat (first | refine blk_drewN ?_ _ | refine blk_drew ?_ | refine blk_alloc ?_ _)); refine blk_far ?_ NB238_249.out _; (with_reducible repeat (first | refine blk_drewN ?_ _ | refine blk_drew ?_ | refine blk_alloc ?_ _)); refine blk_far ?_ NB238_249.out _; (with_reducible repeat (first | refine blk_drewN ?_ _ | refine blk_drew ?_ | refine blk_alloc ?_ _)); refine blk_far ?_ NB238_249.out _; (with_reducible repeat (first | refine blk_drewN ?_ _ | refine blk_drew ?_ | refine blk_alloc ?_ _)); exact BK238.out) hb); have n1_ := Aside0.mk (blk_below (g := gb239) (o := .cells #[.int .u8 a1_0, .int .i64 a1_1, .string a1_2] 25 (0, 0)) (by (with_reducible repeat (first | refine blk_drewN ?_ _ | refine blk_drew ?_ | refine blk_alloc ?_ _)); refine blk_far ?_ NB239_249.out _; (with_reducible repeat (first | refine blk_drewN ?_ _ | refine blk_drew ?_ | refine blk_alloc ?_ _)); refine blk_far ?_ NB239_249.out _; (with_reducible repeat (first | refine blk_drewN ?_ _ | refine blk_drew ?_ | refine blk_alloc ?_ _)); refine blk_far ?_ NB239_249.out _; (with_reducible repeat (first | refine blk_drewN ?_ _ | refine blk_drew ?_ | refine blk_alloc ?_ _)); exact BK239.out) hb); have n2_ := Aside0.mk (blk_below (g := gb240) (o := .cells #[.int .u8 a2_0, .int .i64 a2_1, .string a2_2] 25 (0, 0)) (by (with_reducible repeat (first | refine blk_drewN ?_ _ | refine blk_drew ?_ | refine blk_alloc ?_ _)); refine blk_far ?_ NB240_249.out _; (with_reducible repeat (first | refine blk_drewN ?_ _ | refine blk_drew ?_ | refine blk_alloc ?_ _)); refine blk_far ?_ NB240_249.out _; (with_reducible repeat (first | refine blk_drewN ?_ _ | refine blk_drew ?_ | refine blk_alloc ?_ _)); refine blk_far ?_ NB240_249.out _; (with_reducible repeat (first | refine blk_drewN ?_ _ | refine blk_drew ?_ | refine blk_alloc ?_ _)); exact BK240.out) hb); have n3_ := Aside0.mk (blk_below (g := gb249) (o := .cells #[.int .u8 t245, .int .i64 t246, .string t247] 25 (0, 0)) (by (with_reducible repeat (first | refine blk_drewN ?_ _ | refine blk_drew ?_ | refine blk_alloc ?_ _)); refine blk_put (cs := #[.int .u8 t245, .int .i64 t246, .string (⟨#[]⟩ : ByteArray)]) ?_ 2 _ rfl; (with_reducible repeat (first | refine blk_drewN ?_ _ | refine blk_drew ?_ | refine blk_alloc ?_ _)); refine blk_put (cs := #[.int .u8 t245, .int .i64 0, .string (⟨#[]⟩ : ByteArray)]) ?_ 1 _ rfl; (with_reducible repeat (first | refine blk_drewN ?_ _ | refine blk_drew ?_ | refine blk_alloc ?_ _)); refine blk_put (cs := #[.int .u8 0, .int .i64 0, .string (⟨#[]⟩ : ByteArray)]) ?_ 0 _ rfl; (with_reducible repeat (first | refine blk_drewN ?_ _ | refine blk_drew ?_ | refine blk_alloc ?_ _)); exact BK249.out) hb); have n4_ := Aside0.mk (below_step (by repeat (first | (with_reducible first | exact HB.out | apply below_alloc | apply pw_below_drewN | apply below_drew1 | refine below_set ?_ GE238.out | refine below_set ?_ GE239.out | refine below_set ?_ GE240.out | refine below_set ?_ GE249.out) | exact HB.out)) hb); clear BK238; clear BK239; clear BK240; clear BK249; clear HB; have BK238 := n0_; have BK239 := n1_; have BK240 := n2_; have BK249 := n3_; have HB := n4_; clear n0_ n1_ n2_ n3_ n4_; (try clear hb); (try clear hb2); (try clear hk); (try clear hi); have hcz188_0 : w187.cell? ⟨gb238, 0, none⟩ = some (.int .u8 a0_0) := (blk_cell BK238.out 0).trans rfl; have hcz188_1 : w187.cell? ⟨gb238, 1, none⟩ = some (.int .i64 a0_1) := (blk_cell BK238.out 1).trans rfl; have hcz188_2 : w187.cell? ⟨gb238, 2, none⟩ = some (.string a0_2) := (blk_cell BK238.out 2).trans rfl; have hfz188_0 := blk_frozen BK238.out 0; have hfz188_1 := blk_frozen BK238.out 1; have hfz188_2 := blk_frozen BK238.out 2; have hcz189_0 : w187.cell? ⟨gb239, 0, none⟩ = some (.int .u8 a1_0) := (blk_cell BK239.out 0).trans rfl; have hcz189_1 : w187.cell? ⟨gb239, 1, none⟩ = some (.int .i64 a1_1) := (blk_cell BK239.out 1).trans rfl; have hcz189_2 : w187.cell? ⟨gb239, 2, none⟩ = some (.string a1_2) := (blk_cell BK239.out 2).trans rfl; have hfz189_0 := blk_frozen BK239.out 0; have hfz189_1 := blk_frozen BK239.out 1; have hfz189_2 := blk_frozen BK239.out 2) | ((with_reducible refine gate_callee (f := 9) rfl ?_); refine goesL_ (some 81) rfl rfl Tryd.func9 (by kernel_rfl) rfl #[.int .u8 7, .agg #[.int .u8 a0_0, .int .i64 a0_1, .string a0_2], .agg #[.int .u8 a1_0, .int .i64 a1_1, .string a1_2]] rfl (by (try simp only [List.map_toArray, List.map_cons, List.map_nil]); first | done | rfl | (simp only [List.length_drop, List.length_take]; rfl)) ?_; (with_reducible refine (value_Compare.calls 7 a0_0 a0_1 a0_2 a1_0 a1_1 a1_2 t252 t253 _ A171.out).mono ?_); rintro e w190 ⟨rfl, hb⟩; refine ⟨_, rfl, ?_⟩; have n0_ := Aside0.mk (blk_below (g := gb238) (o := .cells #[.int .u8 a0_0, .int .i64 a0_1, .string a0_2] 25 (0, 0)) (by (with_reducible repeat (first | refine blk_drewN ?_ _ | refine blk_drew ?_ | refine blk_alloc ?_ _)); exact BK238.out) hb); have n1_ := Aside0.mk (blk_below (g := gb239) (o := .cells #[.int .u8 a1_0, .int .i64 a1_1, .string a1_2] 25 (0, 0)) (by (with_reducible repeat (first | refine blk_drewN ?_ _ | refine blk_drew ?_ | refine blk_alloc ?_ _)); exact BK239.out) hb); have n2_ := Aside0.mk (blk_below (g := gb240) (o := .cells #[.int .u8 a2_0, .int .i64 a2_1, .string a2_2] 25 (0, 0)) (by (with_reducible repeat (first | refine blk_drewN ?_ _ | refine blk_drew ?_ | refine blk_alloc ?_ _)); exact BK240.out) hb); have n3_ := Aside0.mk (blk_below (g := gb249) (o := .cells #[.int .u8 t245, .int .i64 t246, .string t247] 25 (0, 0)) (by (with_reducible repeat (first | refine blk_drewN ?_ _ | refine blk_drew ?_ | refine blk_alloc ?_ _)); exact BK249.out) hb); have n4_ := Aside0.mk (below_step (by repeat (first | (with_reducible first | exact HB.out | apply below_alloc | apply pw_below_drewN | apply below_drew1 | refine below_set ?_ GE238.out | refine below_set ?_ GE239.out | refine below_set ?_ GE240.out | refine below_set ?_ GE249.out) | exact HB.out)) hb); clear BK238; clear BK239; clear BK240; clear BK249; clear HB; have BK238 := n0_; have BK239 := n1_; have BK240 := n2_; have BK249 := n3_; have HB := n4_; clear n0_ n1_ n2_ n3_ n4_; (try clear hb); (try clear hb2); (try clear hk); (try clear hi); have hcz191_0 : w190.cell? ⟨gb238, 0, none⟩ = some (.int .u8 a0_0) := (blk_cell BK238.out 0).trans rfl; have hcz191_1 : w190.cell? ⟨gb238, 1, none⟩ = some (.int .i64 a0_1) := (blk_cell BK238.out 1).trans rfl; have hcz191_2 : w190.cell? ⟨gb238, 2, none⟩ = some (.string a0_2) := (blk_cell BK238.out 2).trans rfl; have hfz191_0 := blk_frozen BK238.out 0; have hfz191_1 := blk_frozen BK238.out 1; have hfz191_2 := blk_frozen BK238.out 2; have hcz192_0 : w190.cell? ⟨gb239, 0, none⟩ = some (.int .u8 a1_0) := (blk_cell BK239.out 0).trans rfl; have hcz192_1 : w190.cell? ⟨gb239, 1, none⟩ = some (.int .i64 a1_1) := (blk_cell BK239.out 1).trans rfl; have hcz192_2 : w190.cell? ⟨gb239, 2, none⟩ = some (.string a1_2) := (blk_cell BK239.out 2).trans rfl; have hfz192_0 := blk_frozen BK239.out 0; have hfz192_1 := blk_frozen BK239.out 1; have hfz192_2 := blk_frozen BK239.out 2) | ((with_reducible refine gate_callee (f := 9) rfl ?_); refine goesL_ (some 87) rfl rfl Tryd.func9 (by kernel_rfl) rfl #[.int .u8 8, .agg #[.int .u8 a0_0, .int .i64 a0_1, .string a0_2], .agg #[.int .u8 a1_0, .int .i64 a1_1, .string a1_2]] rfl (by (try simp only [List.map_toArray, List.map_cons, List.map_nil]); first | done | rfl | (simp only [List.length_drop, List.length_take]; rfl)) ?_; (with_reducible refine (value_Compare.calls 8 a0_0 a0_1 a0_2 a1_0 a1_1 a1_2 t254 t255 _ A172.out).mono ?_); rintro e w193 ⟨rfl, hb⟩; refine ⟨_, rfl, ?_⟩; have n0_ := Aside0.mk (blk_below (g := gb238) (o := .cells #[.int .u8 a0_0, .int .i64 a0_1, .string a0_2] 25 (0, 0)) (by (with_reducible repeat (first | refine blk_drewN ?_ _ | refine blk_drew ?_ | refine blk_alloc ?_ _)); exact BK238.out) hb); have n1_ := Aside0.mk (blk_below (g := gb239) (o := .cells #[.int .u8 a1_0, .int .i64 a1_1, .string a1_2] 25 (0, 0)) (by (with_reducible repeat (first | refine blk_drewN ?_ _ | refine blk_drew ?_ | refine blk_alloc ?_ _)); exact BK239.out) hb); have n2_ := Aside0.mk (blk_below (g := gb240) (o := .cells #[.int .u8 a2_0, .int .i64 a2_1, .string a2_2] 25 (0, 0)) (by (with_reducible repeat (first | refine blk_drewN ?_ _ | refine blk_drew ?_ | refine blk_alloc ?_ _)); exact BK240.out) hb); have n3_ := Aside0.mk (blk_below (g := gb249) (o := .cells #[.int .u8 t245, .int .i64 t246, .string t247] 25 (0, 0)) (by (with_reducible repeat (first | refine blk_drewN ?_ _ | refine blk_drew ?_ | refine blk_alloc ?_ _)); exact BK249.out) hb); have n4_ := Aside0.mk (below_step (by repeat (first | (with_reducible first | exact HB.out | apply below_alloc | apply pw_below_drewN | apply below_drew1 | refine below_set ?_ GE238.out | refine below_set ?_ GE239.out | refine below_set ?_ GE240.out | refine below_set ?_ GE249.out) | exact HB.out)) hb); clear BK238; clear BK239; clear BK240; clear BK249; clear HB; have BK238 := n0_; have BK239 := n1_; have BK240 := n2_; have BK249 := n3_; have HB := n4_; clear n0_ n1_ n2_ n3_ n4_; (try clear hb); (try clear hb2); (try clear hk); (try clear hi)))
        (try simp only [Act.put, List.setIfInBounds_toArray, List.set_cons_zero, List.set_cons_succ])
        go_cut [107] (fun v107 wc => ∃ (kq : Nat) (x107_172 : Bool), v107 = .bool x107_172 ∧ Aside0 (chancerylaw17_ValueOrder.j1 kq t248 t250 t251 t252 x107_172 t245 t246 t247 = some r) ∧ Aside0 (kq ≤ kj6) ∧ Aside0 (wc.heap[gb238]? = some (.cells #[.int .u8 a0_0, .int .i64 a0_1, .string a0_2] 25 (0, 0))) ∧ Aside0 (wc.heap[gb239]? = some (.cells #[.int .u8 a1_0, .int .i64 a1_1, .string a1_2] 25 (0, 0))) ∧ Aside0 (wc.heap[gb240]? = some (.cells #[.int .u8 a2_0, .int .i64 a2_1, .string a2_2] 25 (0, 0))) ∧ Aside0 (wc.heap[gb249]? = some (.cells #[.int .u8 t245, .int .i64 t246, .string t247] 25 (0, 0))) ∧ Aside0 (Below w.heap.size w wc))
        case first =>
          have H := HC173.out
          clear HC173
          by_cases c194 : t251 = t253
          · rw [if_pos c194] at H
            have c194b0 : (t251 == t253) = true := beq_iff_eq.mpr c194
            have c194b1 : (t251 != t253) = false := bne_eq_false_iff_eq.mpr c194
            clear c194
            (first | rw [c194b0] | (simp only [i64_w, i32_w]; rw [c194b0]) | skip)
            by_cases c195 : t253 = t255
            · rw [if_pos c195] at H
              have c195b0 : (t253 == t255) = true := beq_iff_eq.mpr c195
              have c195b1 : (t253 != t255) = false := bne_eq_false_iff_eq.mpr c195
              clear c195
              by_cases c196 : t251 = 0
              · rw [if_pos c196] at H
                have c196b0 : (t251 == 0) = true := beq_iff_eq.mpr c196
                have c196b1 : (t251 != 0) = false := bne_eq_false_iff_eq.mpr c196
                clear c196
                replace H := Option.bind_eq_some_iff.mp H
                obtain ⟨t256, A1970, H⟩ := H
                replace H : (chancerylaw17_ValueOrder.j1 kj6 t248 t250 t251 t252 (t254 != t256) t245 t246 t247) = some r := H
                have A197 := Aside0.mk A1970
                clear A1970
                have H' := Aside0.mk H
                clear H
                go_wp2_with (first | (go_at_call 18; (with_reducible refine (value_Not.calls t252 t256 _ A197.out (by first | exact HG.out | exact VOK.drawn HG.out ⟨⟨_, rfl⟩⟩ | exact VOK.below HG.out (by repeat (first | (with_reducible first | exact HB.out | apply below_alloc | apply pw_below_drewN | apply below_drew1) | exact HB.out)))).mono ?_); rintro e w' ⟨rfl, ⟨nd, rfl⟩⟩))
                go_meet
                case rel => exact ⟨_, ((t254 != t256)), (by first | rfl | (simp; done) | (simp [*]; done)), H', ⟨by have := HJ6.out; first | omega | exact Nat.le_refl _⟩, ⟨by (with_reducible repeat (first | refine blk_drewN ?_ _ | refine blk_drew ?_ | refine blk_alloc ?_ _)); exact BK238.out⟩, ⟨by (with_reducible repeat (first | refine blk_drewN ?_ _ | refine blk_drew ?_ | refine blk_alloc ?_ _)); exact BK239.out⟩, ⟨by (with_reducible repeat (first | refine blk_drewN ?_ _ | refine blk_drew ?_ | refine blk_alloc ?_ _)); exact BK240.out⟩, ⟨by (with_reducible repeat (first | refine blk_drewN ?_ _ | refine blk_drew ?_ | refine blk_alloc ?_ _)); exact BK249.out⟩, ⟨by repeat (first | (with_reducible first | exact HB.out | apply below_alloc | apply pw_below_drewN | apply below_drew1 | refine below_set ?_ GE238.out | refine below_set ?_ GE239.out | refine below_set ?_ GE240.out | refine below_set ?_ GE249.out) | exact HB.out)⟩⟩
              · rw [if_neg c196] at H
                have c196b0 : (t251 == 0) = false := beq_eq_false_iff_ne.mpr c196
                have c196b1 : (t251 != 0) = true := bne_iff_ne.mpr c196
                have H' := Aside0.mk H
                clear H
                go_wp2
                go_meet
                case rel => exact ⟨_, (false), (by first | rfl | (simp; done) | (simp [*]; done)), H', ⟨by have := HJ6.out; first | omega | exact Nat.le_refl _⟩, ⟨by (with_reducible repeat (first | refine blk_drewN ?_ _ | refine blk_drew ?_ | refine blk_alloc ?_ _)); exact BK238.out⟩, ⟨by (with_reducible repeat (first | refine blk_drewN ?_ _ | refine blk_drew ?_ | refine blk_alloc ?_ _)); exact BK239.out⟩, ⟨by (with_reducible repeat (first | refine blk_drewN ?_ _ | refine blk_drew ?_ | refine blk_alloc ?_ _)); exact BK240.out⟩, ⟨by (with_reducible repeat (first | refine blk_drewN ?_ _ | refine blk_drew ?_ | refine blk_alloc ?_ _)); exact BK249.out⟩, ⟨by repeat (first | (with_reducible first | exact HB.out | apply below_alloc | apply pw_below_drewN | apply below_drew1 | refine below_set ?_ GE238.out | refine below_set ?_ GE239.out | refine below_set ?_ GE240.out | refine below_set ?_ GE249.out) | exact HB.out)⟩⟩
            · rw [if_neg c195] at H
              have c195b0 : (t253 == t255) = false := beq_eq_false_iff_ne.mpr c195
              have c195b1 : (t253 != t255) = true := bne_iff_ne.mpr c195
              have H' := Aside0.mk H
              clear H
              go_wp2
              go_meet
              case rel => exact ⟨_, (true), (by first | rfl | (simp; done) | (simp [*]; done)), H', ⟨by have := HJ6.out; first | omega | exact Nat.le_refl _⟩, ⟨by (with_reducible repeat (first | refine blk_drewN ?_ _ | refine blk_drew ?_ | refine blk_alloc ?_ _)); exact BK238.out⟩, ⟨by (with_reducible repeat (first | refine blk_drewN ?_ _ | refine blk_drew ?_ | refine blk_alloc ?_ _)); exact BK239.out⟩, ⟨by (with_reducible repeat (first | refine blk_drewN ?_ _ | refine blk_drew ?_ | refine blk_alloc ?_ _)); exact BK240.out⟩, ⟨by (with_reducible repeat (first | refine blk_drewN ?_ _ | refine blk_drew ?_ | refine blk_alloc ?_ _)); exact BK249.out⟩, ⟨by repeat (first | (with_reducible first | exact HB.out | apply below_alloc | apply pw_below_drewN | apply below_drew1 | refine below_set ?_ GE238.out | refine below_set ?_ GE239.out | refine below_set ?_ GE240.out | refine below_set ?_ GE249.out) | exact HB.out)⟩⟩
          · rw [if_neg c194] at H
            have c194b0 : (t251 == t253) = false := beq_eq_false_iff_ne.mpr c194
            have c194b1 : (t251 != t253) = true := bne_iff_ne.mpr c194
            (first | rw [c194b0] | (simp only [i64_w, i32_w]; rw [c194b0]) | skip)
            have H' := Aside0.mk H
            clear H
            go_wp2
            go_meet
            case rel => exact ⟨_, (true), (by first | rfl | (simp; done) | (simp [*]; done)), H', ⟨by have := HJ6.out; first | omega | exact Nat.le_refl _⟩, ⟨by (with_reducible repeat (first | refine blk_drewN ?_ _ | refine blk_drew ?_ | refine blk_alloc ?_ _)); exact BK238.out⟩, ⟨by (with_reducible repeat (first | refine blk_drewN ?_ _ | refine blk_drew ?_ | refine blk_alloc ?_ _)); exact BK239.out⟩, ⟨by (with_reducible repeat (first | refine blk_drewN ?_ _ | refine blk_drew ?_ | refine blk_alloc ?_ _)); exact BK240.out⟩, ⟨by (with_reducible repeat (first | refine blk_drewN ?_ _ | refine blk_drew ?_ | refine blk_alloc ?_ _)); exact BK249.out⟩, ⟨by repeat (first | (with_reducible first | exact HB.out | apply below_alloc | apply pw_below_drewN | apply below_drew1 | refine below_set ?_ GE238.out | refine below_set ?_ GE239.out | refine below_set ?_ GE240.out | refine below_set ?_ GE249.out) | exact HB.out)⟩⟩
        case rest =>
          clear HC173
          try clear c1
          try clear c2
          try clear p2
          try clear c3
          try clear c4
          try clear c5
          try clear c6
          try clear p6
          try clear c7
          try clear c8
          try clear c9
          try clear c10
          try clear c11
          try clear c12
          try clear c13
          try clear c14
          try clear c15
          try clear c16
          try clear c16b0
          try clear c16b1
          try clear c17
          try clear c17b0
          try clear c18
          try clear c18b0
          try clear c19
          try clear c19b0
          try clear c20
          try clear c21
          try clear c23
          try clear c26
          try clear c26b0
          try clear c26b1
          try clear c27
          try clear c27b0
          try clear c28
          try clear c29
          try clear c31
          try clear c36
          try clear c36b0
          try clear c37
          try clear c38
          try clear c40
          try clear c45
          try clear c46
          try clear c48
          try clear c53
          try clear c53b0
          try clear c54
          try clear c55
          try clear c57
          try clear c60
          try clear c61
          try clear c63
          try clear p64
          try clear c66
          try clear c66b0
          try clear c66b1
          try clear c67
          try clear c67b0
          try clear c68
          try clear c69
          try clear c71
          try clear c76
          try clear c76b0
          try clear c77
          try clear c78
          try clear c80
          try clear c85
          try clear c86
          try clear c88
          try clear c93
          try clear c93b0
          try clear c94
          try clear c95
          try clear c97
          try clear c100
          try clear c101
          try clear c103
          try clear c106
          try clear c106b0
          try clear c106b1
          try clear c107
          try clear c107b0
          try clear c108
          try clear c109
          try clear c111
          try clear c116
          try clear c116b0
          try clear c117
          try clear c117b0
          try clear c118
          try clear c119
          try clear c121
          try clear c126
          try clear c127
          try clear c129
          try clear c134
          try clear c135
          try clear c137
          try clear c142
          try clear c142b0
          try clear c143
          try clear c143b0
          try clear c144
          try clear c145
          try clear c147
          try clear c150
          try clear c151
          try clear c153
          try clear c156
          try clear c157
          try clear c159
          try clear c162
          try clear c163
          try clear c165
          try clear c168
          try clear c174
          try clear c175
          try clear c177
          try clear c181
          try clear c182
          try clear c183
          try clear c194
          try clear c194b0
          try clear c194b1
          try clear c195
          try clear c195b0
          try clear c195b1
          try clear c196
          try clear c196b0
          try clear c196b1
          try clear hcz102_0
          try clear hcz102_1
          try clear hcz102_2
          try clear hcz104_0
          try clear hcz104_1
          try clear hcz104_2
          try clear hcz110_0
          try clear hcz110_1
          try clear hcz110_2
          try clear hcz112_0
          try clear hcz112_1
          try clear hcz112_2
          try clear hcz114_0
          try clear hcz114_1
          try clear hcz114_2
          try clear hcz115_0
          try clear hcz115_1
          try clear hcz115_2
          try clear hcz120_0
          try clear hcz120_1
          try clear hcz120_2
          try clear hcz122_0
          try clear hcz122_1
          try clear hcz122_2
          try clear hcz124_0
          try clear hcz124_1
          try clear hcz124_2
          try clear hcz125_0
          try clear hcz125_1
          try clear hcz125_2
          try clear hcz128_0
          try clear hcz128_1
          try clear hcz128_2
          try clear hcz130_0
          try clear hcz130_1
          try clear hcz130_2
          try clear hcz132_0
          try clear hcz132_1
          try clear hcz132_2
          try clear hcz133_0
          try clear hcz133_1
          try clear hcz133_2
          try clear hcz136_0
          try clear hcz136_1
          try clear hcz136_2
          try clear hcz138_0
          try clear hcz138_1
          try clear hcz138_2
          try clear hcz140_0
          try clear hcz140_1
          try clear hcz140_2
          try clear hcz141_0
          try clear hcz141_1
          try clear hcz141_2
          try clear hcz146_0
          try clear hcz146_1
          try clear hcz146_2
          try clear hcz148_0
          try clear hcz148_1
          try clear hcz148_2
          try clear hcz152_0
          try clear hcz152_1
          try clear hcz152_2
          try clear hcz154_0
          try clear hcz154_1
          try clear hcz154_2
          try clear hcz158_0
          try clear hcz158_1
          try clear hcz158_2
          try clear hcz160_0
          try clear hcz160_1
          try clear hcz160_2
          try clear hcz164_0
          try clear hcz164_1
          try clear hcz164_2
          try clear hcz166_0
          try clear hcz166_1
          try clear hcz166_2
          try clear hcz176_0
          try clear hcz176_1
          try clear hcz176_2
          try clear hcz178_0
          try clear hcz178_1
          try clear hcz178_2
          try clear hcz184_0
          try clear hcz184_1
          try clear hcz184_2
          try clear hcz185_0
          try clear hcz185_1
          try clear hcz185_2
          try clear hcz186_0
          try clear hcz186_1
          try clear hcz186_2
          try clear hcz188_0
          try clear hcz188_1
          try clear hcz188_2
          try clear hcz189_0
          try clear hcz189_1
          try clear hcz189_2
          try clear hcz191_0
          try clear hcz191_1
          try clear hcz191_2
          try clear hcz192_0
          try clear hcz192_1
          try clear hcz192_2
          try clear hcz22_0
          try clear hcz22_1
          try clear hcz22_2
          try clear hcz24_0
          try clear hcz24_1
          try clear hcz24_2
          try clear hcz30_0
          try clear hcz30_1
          try clear hcz30_2
          try clear hcz32_0
          try clear hcz32_1
          try clear hcz32_2
          try clear hcz34_0
          try clear hcz34_1
          try clear hcz34_2
          try clear hcz35_0
          try clear hcz35_1
          try clear hcz35_2
          try clear hcz39_0
          try clear hcz39_1
          try clear hcz39_2
          try clear hcz41_0
          try clear hcz41_1
          try clear hcz41_2
          try clear hcz43_0
          try clear hcz43_1
          try clear hcz43_2
          try clear hcz44_0
          try clear hcz44_1
          try clear hcz44_2
          try clear hcz47_0
          try clear hcz47_1
          try clear hcz47_2
          try clear hcz49_0
          try clear hcz49_1
          try clear hcz49_2
          try clear hcz51_0
          try clear hcz51_1
          try clear hcz51_2
          try clear hcz52_0
          try clear hcz52_1
          try clear hcz52_2
          try clear hcz56_0
          try clear hcz56_1
          try clear hcz56_2
          try clear hcz58_0
          try clear hcz58_1
          try clear hcz58_2
          try clear hcz62_0
          try clear hcz62_1
          try clear hcz62_2
          try clear hcz64_0
          try clear hcz64_1
          try clear hcz64_2
          try clear hcz70_0
          try clear hcz70_1
          try clear hcz70_2
          try clear hcz72_0
          try clear hcz72_1
          try clear hcz72_2
          try clear hcz74_0
          try clear hcz74_1
          try clear hcz74_2
          try clear hcz75_0
          try clear hcz75_1
          try clear hcz75_2
          try clear hcz79_0
          try clear hcz79_1
          try clear hcz79_2
          try clear hcz81_0
          try clear hcz81_1
          try clear hcz81_2
          try clear hcz83_0
          try clear hcz83_1
          try clear hcz83_2
          try clear hcz84_0
          try clear hcz84_1
          try clear hcz84_2
          try clear hcz87_0
          try clear hcz87_1
          try clear hcz87_2
          try clear hcz89_0
          try clear hcz89_1
          try clear hcz89_2
          try clear hcz91_0
          try clear hcz91_1
          try clear hcz91_2
          try clear hcz92_0
          try clear hcz92_1
          try clear hcz92_2
          try clear hcz96_0
          try clear hcz96_1
          try clear hcz96_2
          try clear hcz98_0
          try clear hcz98_1
          try clear hcz98_2
          try clear hfz102_0
          try clear hfz102_1
          try clear hfz102_2
          try clear hfz104_0
          try clear hfz104_1
          try clear hfz104_2
          try clear hfz110_0
          try clear hfz110_1
          try clear hfz110_2
          try clear hfz112_0
          try clear hfz112_1
          try clear hfz112_2
          try clear hfz114_0
          try clear hfz114_1
          try clear hfz114_2
          try clear hfz115_0
          try clear hfz115_1
          try clear hfz115_2
          try clear hfz120_0
          try clear hfz120_1
          try clear hfz120_2
          try clear hfz122_0
          try clear hfz122_1
          try clear hfz122_2
          try clear hfz124_0
          try clear hfz124_1
          try clear hfz124_2
          try clear hfz125_0
          try clear hfz125_1
          try clear hfz125_2
          try clear hfz128_0
          try clear hfz128_1
          try clear hfz128_2
          try clear hfz130_0
          try clear hfz130_1
          try clear hfz130_2
          try clear hfz132_0
          try clear hfz132_1
          try clear hfz132_2
          try clear hfz133_0
          try clear hfz133_1
          try clear hfz133_2
          try clear hfz136_0
          try clear hfz136_1
          try clear hfz136_2
          try clear hfz138_0
          try clear hfz138_1
          try clear hfz138_2
          try clear hfz140_0
          try clear hfz140_1
          try clear hfz140_2
          try clear hfz141_0
          try clear hfz141_1
          try clear hfz141_2
          try clear hfz146_0
          try clear hfz146_1
          try clear hfz146_2
          try clear hfz148_0
          try clear hfz148_1
          try clear hfz148_2
          try clear hfz152_0
          try clear hfz152_1
          try clear hfz152_2
          try clear hfz154_0
          try clear hfz154_1
          try clear hfz154_2
          try clear hfz158_0
          try clear hfz158_1
          try clear hfz158_2
          try clear hfz160_0
          try clear hfz160_1
          try clear hfz160_2
          try clear hfz164_0
          try clear hfz164_1
          try clear hfz164_2
          try clear hfz166_0
          try clear hfz166_1
          try clear hfz166_2
          try clear hfz176_0
          try clear hfz176_1
          try clear hfz176_2
          try clear hfz178_0
          try clear hfz178_1
          try clear hfz178_2
          try clear hfz184_0
          try clear hfz184_1
          try clear hfz184_2
          try clear hfz185_0
          try clear hfz185_1
          try clear hfz185_2
          try clear hfz186_0
          try clear hfz186_1
          try clear hfz186_2
          try clear hfz188_0
          try clear hfz188_1
          try clear hfz188_2
          try clear hfz189_0
          try clear hfz189_1
          try clear hfz189_2
          try clear hfz191_0
          try clear hfz191_1
          try clear hfz191_2
          try clear hfz192_0
          try clear hfz192_1
          try clear hfz192_2
          try clear hfz22_0
          try clear hfz22_1
          try clear hfz22_2
          try clear hfz24_0
          try clear hfz24_1
          try clear hfz24_2
          try clear hfz30_0
          try clear hfz30_1
          try clear hfz30_2
          try clear hfz32_0
          try clear hfz32_1
          try clear hfz32_2
          try clear hfz34_0
          try clear hfz34_1
          try clear hfz34_2
          try clear hfz35_0
          try clear hfz35_1
          try clear hfz35_2
          try clear hfz39_0
          try clear hfz39_1
          try clear hfz39_2
          try clear hfz41_0
          try clear hfz41_1
          try clear hfz41_2
          try clear hfz43_0
          try clear hfz43_1
          try clear hfz43_2
          try clear hfz44_0
          try clear hfz44_1
          try clear hfz44_2
          try clear hfz47_0
          try clear hfz47_1
          try clear hfz47_2
          try clear hfz49_0
          try clear hfz49_1
          try clear hfz49_2
          try clear hfz51_0
          try clear hfz51_1
          try clear hfz51_2
          try clear hfz52_0
          try clear hfz52_1
          try clear hfz52_2
          try clear hfz56_0
          try clear hfz56_1
          try clear hfz56_2
          try clear hfz58_0
          try clear hfz58_1
          try clear hfz58_2
          try clear hfz62_0
          try clear hfz62_1
          try clear hfz62_2
          try clear hfz64_0
          try clear hfz64_1
          try clear hfz64_2
          try clear hfz70_0
          try clear hfz70_1
          try clear hfz70_2
          try clear hfz72_0
          try clear hfz72_1
          try clear hfz72_2
          try clear hfz74_0
          try clear hfz74_1
          try clear hfz74_2
          try clear hfz75_0
          try clear hfz75_1
          try clear hfz75_2
          try clear hfz79_0
          try clear hfz79_1
          try clear hfz79_2
          try clear hfz81_0
          try clear hfz81_1
          try clear hfz81_2
          try clear hfz83_0
          try clear hfz83_1
          try clear hfz83_2
          try clear hfz84_0
          try clear hfz84_1
          try clear hfz84_2
          try clear hfz87_0
          try clear hfz87_1
          try clear hfz87_2
          try clear hfz89_0
          try clear hfz89_1
          try clear hfz89_2
          try clear hfz91_0
          try clear hfz91_1
          try clear hfz91_2
          try clear hfz92_0
          try clear hfz92_1
          try clear hfz92_2
          try clear hfz96_0
          try clear hfz96_1
          try clear hfz96_2
          try clear hfz98_0
          try clear hfz98_1
          try clear hfz98_2
          try clear p2
          try clear p6
          try clear p64
          obtain ⟨kq, x107_172, rfl, HA, HJ172, BK238, BK239, BK240, BK249, HB⟩ := hcut
          cases kq with
          | zero => exact absurd HA.out (by simp [chancerylaw17_ValueOrder.j1])
          | succ kj172 =>
            have H := HA.out
            clear HA
            simp only [chancerylaw17_ValueOrder.j1] at H
            by_cases c198 : x107_172 = true
            · subst c198
              have H1 : (some false) = some r := by rw [if_pos rfl] at H; exact H
              clear H
              have H := H1
              clear H1
              obtain rfl := Option.some.inj H
              go_wp2
              go_ret
              exact ⟨by first | rfl | (simp [errW_none, errW_some] <;> rfl) | (simp [*, errW_none, errW_some] <;> rfl), by repeat (first | (with_reducible first | exact HB.out | apply below_alloc | apply pw_below_drewN | apply below_drew1 | refine below_set ?_ GE238.out | refine below_set ?_ GE239.out | refine below_set ?_ GE240.out | refine below_set ?_ GE249.out) | exact HB.out)⟩
            · replace c198 := Bool.eq_false_iff.mpr c198
              subst c198
              have H1 : (if t248 = 0 then (chancerylaw17_ValueOrder.j2 kj172 t250 t251 t252 (t245 == 0) t245 t246 t247) else (chancerylaw17_ValueOrder.j2 kj172 t250 t251 t252 true t245 t246 t247)) = some r := by rw [if_neg (show ¬ (false = true) by decide)] at H; exact H
              clear H
              have H := H1
              clear H1
              have HC199 := Aside0.mk H
              clear H
              go_upto_region 10 with (fail)
              go_cut [114] (fun v114 wc => ∃ (kq : Nat) (x114_198 : Bool), v114 = .bool x114_198 ∧ Aside0 (chancerylaw17_ValueOrder.j2 kq t250 t251 t252 x114_198 t245 t246 t247 = some r) ∧ Aside0 (kq ≤ kj172) ∧ Aside0 (wc.heap[gb238]? = some (.cells #[.int .u8 a0_0, .int .i64 a0_1, .string a0_2] 25 (0, 0))) ∧ Aside0 (wc.heap[gb239]? = some (.cells #[.int .u8 a1_0, .int .i64 a1_1, .string a1_2] 25 (0, 0))) ∧ Aside0 (wc.heap[gb240]? = some (.cells #[.int .u8 a2_0, .int .i64 a2_1, .string a2_2] 25 (0, 0))) ∧ Aside0 (wc.heap[gb249]? = some (.cells #[.int .u8 t245, .int .i64 t246, .string t247] 25 (0, 0))) ∧ Aside0 (Below w.heap.size w wc))
              case first =>
                have H := HC199.out
                clear HC199
                by_cases c200 : t248 = 0
                · rw [if_pos c200] at H
                  have c200b0 : (t248 == 0) = true := beq_iff_eq.mpr c200
                  have c200b1 : (t248 != 0) = false := bne_eq_false_iff_eq.mpr c200
                  clear c200
                  (first | rw [c200b0] | (simp only [i64_w, i32_w]; rw [c200b0]) | skip)
                  have H' := Aside0.mk H
                  clear H
                  have hnb201 := NB249_238.out
                  have hnc201 := NB238_249.out
                  have hnb202 := NB249_239.out
                  have hnc202 := NB239_249.out
                  have hnb203 := NB249_240.out
                  have hnc203 := NB240_249.out
                  have hcz204_0 : wc.cell? ⟨gb249, 0, none⟩ = some (.int .u8 t245) := (blk_cell BK249.out 0).trans rfl
                  have hcz204_1 : wc.cell? ⟨gb249, 1, none⟩ = some (.int .i64 t246) := (blk_cell BK249.out 1).trans rfl
                  have hcz204_2 : wc.cell? ⟨gb249, 2, none⟩ = some (.string t247) := (blk_cell BK249.out 2).trans rfl
                  have hfz204_0 := blk_frozen BK249.out 0
                  have hfz204_1 := blk_frozen BK249.out 1
                  have hfz204_2 := blk_frozen BK249.out 2
                  go_wp2
                  go_meet
                  case rel => exact ⟨_, ((t245 == 0)), (by first | rfl | (simp; done) | (simp [*]; done)), H', ⟨by have := HJ6.out; have := HJ172.out; first | omega | exact Nat.le_refl _⟩, ⟨by (with_reducible repeat (first | refine blk_drewN ?_ _ | refine blk_drew ?_ | refine blk_alloc ?_ _)); exact BK238.out⟩, ⟨by (with_reducible repeat (first | refine blk_drewN ?_ _ | refine blk_drew ?_ | refine blk_alloc ?_ _)); exact BK239.out⟩, ⟨by (with_reducible repeat (first | refine blk_drewN ?_ _ | refine blk_drew ?_ | refine blk_alloc ?_ _)); exact BK240.out⟩, ⟨by (with_reducible repeat (first | refine blk_drewN ?_ _ | refine blk_drew ?_ | refine blk_alloc ?_ _)); exact BK249.out⟩, ⟨by repeat (first | (with_reducible first | exact HB.out | apply below_alloc | apply pw_below_drewN | apply below_drew1 | refine below_set ?_ GE238.out | refine below_set ?_ GE239.out | refine below_set ?_ GE240.out | refine below_set ?_ GE249.out) | exact HB.out)⟩⟩
                · rw [if_neg c200] at H
                  have c200b0 : (t248 == 0) = false := beq_eq_false_iff_ne.mpr c200
                  have c200b1 : (t248 != 0) = true := bne_iff_ne.mpr c200
                  (first | rw [c200b0] | (simp only [i64_w, i32_w]; rw [c200b0]) | skip)
                  have H' := Aside0.mk H
                  clear H
                  go_wp2
                  go_meet
                  case rel => exact ⟨_, (true), (by first | rfl | (simp; done) | (simp [*]; done)), H', ⟨by have := HJ6.out; have := HJ172.out; first | omega | exact Nat.le_refl _⟩, ⟨by (with_reducible repeat (first | refine blk_drewN ?_ _ | refine blk_drew ?_ | refine blk_alloc ?_ _)); exact BK238.out⟩, ⟨by (with_reducible repeat (first | refine blk_drewN ?_ _ | refine blk_drew ?_ | refine blk_alloc ?_ _)); exact BK239.out⟩, ⟨by (with_reducible repeat (first | refine blk_drewN ?_ _ | refine blk_drew ?_ | refine blk_alloc ?_ _)); exact BK240.out⟩, ⟨by (with_reducible repeat (first | refine blk_drewN ?_ _ | refine blk_drew ?_ | refine blk_alloc ?_ _)); exact BK249.out⟩, ⟨by repeat (first | (with_reducible first | exact HB.out | apply below_alloc | apply pw_below_drewN | apply below_drew1 | refine below_set ?_ GE238.out | refine below_set ?_ GE239.out | refine below_set ?_ GE240.out | refine below_set ?_ GE249.out) | exact HB.out)⟩⟩
              case rest =>
                clear HC199
                try clear c1
                try clear c2
                try clear p2
                try clear c3
                try clear c4
                try clear c5
                try clear c6
                try clear p6
                try clear c7
                try clear c8
                try clear c9
                try clear c10
                try clear c11
                try clear c12
                try clear c13
                try clear c14
                try clear c15
                try clear c16
                try clear c16b0
                try clear c16b1
                try clear c17
                try clear c17b0
                try clear c18
                try clear c18b0
                try clear c19
                try clear c19b0
                try clear c20
                try clear c21
                try clear c23
                try clear c26
                try clear c26b0
                try clear c26b1
                try clear c27
                try clear c27b0
                try clear c28
                try clear c29
                try clear c31
                try clear c36
                try clear c36b0
                try clear c37
                try clear c38
                try clear c40
                try clear c45
                try clear c46
                try clear c48
                try clear c53
                try clear c53b0
                try clear c54
                try clear c55
                try clear c57
                try clear c60
                try clear c61
                try clear c63
                try clear p64
                try clear c66
                try clear c66b0
                try clear c66b1
                try clear c67
                try clear c67b0
                try clear c68
                try clear c69
                try clear c71
                try clear c76
                try clear c76b0
                try clear c77
                try clear c78
                try clear c80
                try clear c85
                try clear c86
                try clear c88
                try clear c93
                try clear c93b0
                try clear c94
                try clear c95
                try clear c97
                try clear c100
                try clear c101
                try clear c103
                try clear c106
                try clear c106b0
                try clear c106b1
                try clear c107
                try clear c107b0
                try clear c108
                try clear c109
                try clear c111
                try clear c116
                try clear c116b0
                try clear c117
                try clear c117b0
                try clear c118
                try clear c119
                try clear c121
                try clear c126
                try clear c127
                try clear c129
                try clear c134
                try clear c135
                try clear c137
                try clear c142
                try clear c142b0
                try clear c143
                try clear c143b0
                try clear c144
                try clear c145
                try clear c147
                try clear c150
                try clear c151
                try clear c153
                try clear c156
                try clear c157
                try clear c159
                try clear c162
                try clear c163
                try clear c165
                try clear c168
                try clear c174
                try clear c175
                try clear c177
                try clear c181
                try clear c182
                try clear c183
                try clear c194
                try clear c194b0
                try clear c194b1
                try clear c195
                try clear c195b0
                try clear c195b1
                try clear c196
                try clear c196b0
                try clear c196b1
                try clear c198
                try clear c200
                try clear c200b0
                try clear c200b1
                try clear c201
                try clear c202
                try clear c203
                try clear hcz102_0
                try clear hcz102_1
                try clear hcz102_2
                try clear hcz104_0
                try clear hcz104_1
                try clear hcz104_2
                try clear hcz110_0
                try clear hcz110_1
                try clear hcz110_2
                try clear hcz112_0
                try clear hcz112_1
                try clear hcz112_2
                try clear hcz114_0
                try clear hcz114_1
                try clear hcz114_2
                try clear hcz115_0
                try clear hcz115_1
                try clear hcz115_2
                try clear hcz120_0
                try clear hcz120_1
                try clear hcz120_2
                try clear hcz122_0
                try clear hcz122_1
                try clear hcz122_2
                try clear hcz124_0
                try clear hcz124_1
                try clear hcz124_2
                try clear hcz125_0
                try clear hcz125_1
                try clear hcz125_2
                try clear hcz128_0
                try clear hcz128_1
                try clear hcz128_2
                try clear hcz130_0
                try clear hcz130_1
                try clear hcz130_2
                try clear hcz132_0
                try clear hcz132_1
                try clear hcz132_2
                try clear hcz133_0
                try clear hcz133_1
                try clear hcz133_2
                try clear hcz136_0
                try clear hcz136_1
                try clear hcz136_2
                try clear hcz138_0
                try clear hcz138_1
                try clear hcz138_2
                try clear hcz140_0
                try clear hcz140_1
                try clear hcz140_2
                try clear hcz141_0
                try clear hcz141_1
                try clear hcz141_2
                try clear hcz146_0
                try clear hcz146_1
                try clear hcz146_2
                try clear hcz148_0
                try clear hcz148_1
                try clear hcz148_2
                try clear hcz152_0
                try clear hcz152_1
                try clear hcz152_2
                try clear hcz154_0
                try clear hcz154_1
                try clear hcz154_2
                try clear hcz158_0
                try clear hcz158_1
                try clear hcz158_2
                try clear hcz160_0
                try clear hcz160_1
                try clear hcz160_2
                try clear hcz164_0
                try clear hcz164_1
                try clear hcz164_2
                try clear hcz166_0
                try clear hcz166_1
                try clear hcz166_2
                try clear hcz176_0
                try clear hcz176_1
                try clear hcz176_2
                try clear hcz178_0
                try clear hcz178_1
                try clear hcz178_2
                try clear hcz184_0
                try clear hcz184_1
                try clear hcz184_2
                try clear hcz185_0
                try clear hcz185_1
                try clear hcz185_2
                try clear hcz186_0
                try clear hcz186_1
                try clear hcz186_2
                try clear hcz188_0
                try clear hcz188_1
                try clear hcz188_2
                try clear hcz189_0
                try clear hcz189_1
                try clear hcz189_2
                try clear hcz191_0
                try clear hcz191_1
                try clear hcz191_2
                try clear hcz192_0
                try clear hcz192_1
                try clear hcz192_2
                try clear hcz204_0
                try clear hcz204_1
                try clear hcz204_2
                try clear hcz22_0
                try clear hcz22_1
                try clear hcz22_2
                try clear hcz24_0
                try clear hcz24_1
                try clear hcz24_2
                try clear hcz30_0
                try clear hcz30_1
                try clear hcz30_2
                try clear hcz32_0
                try clear hcz32_1
                try clear hcz32_2
                try clear hcz34_0
                try clear hcz34_1
                try clear hcz34_2
                try clear hcz35_0
                try clear hcz35_1
                try clear hcz35_2
                try clear hcz39_0
                try clear hcz39_1
                try clear hcz39_2
                try clear hcz41_0
                try clear hcz41_1
                try clear hcz41_2
                try clear hcz43_0
                try clear hcz43_1
                try clear hcz43_2
                try clear hcz44_0
                try clear hcz44_1
                try clear hcz44_2
                try clear hcz47_0
                try clear hcz47_1
                try clear hcz47_2
                try clear hcz49_0
                try clear hcz49_1
                try clear hcz49_2
                try clear hcz51_0
                try clear hcz51_1
                try clear hcz51_2
                try clear hcz52_0
                try clear hcz52_1
                try clear hcz52_2
                try clear hcz56_0
                try clear hcz56_1
                try clear hcz56_2
                try clear hcz58_0
                try clear hcz58_1
                try clear hcz58_2
                try clear hcz62_0
                try clear hcz62_1
                try clear hcz62_2
                try clear hcz64_0
                try clear hcz64_1
                try clear hcz64_2
                try clear hcz70_0
                try clear hcz70_1
                try clear hcz70_2
                try clear hcz72_0
                try clear hcz72_1
                try clear hcz72_2
                try clear hcz74_0
                try clear hcz74_1
                try clear hcz74_2
                try clear hcz75_0
                try clear hcz75_1
                try clear hcz75_2
                try clear hcz79_0
                try clear hcz79_1
                try clear hcz79_2
                try clear hcz81_0
                try clear hcz81_1
                try clear hcz81_2
                try clear hcz83_0
                try clear hcz83_1
                try clear hcz83_2
                try clear hcz84_0
                try clear hcz84_1
                try clear hcz84_2
                try clear hcz87_0
                try clear hcz87_1
                try clear hcz87_2
                try clear hcz89_0
                try clear hcz89_1
                try clear hcz89_2
                try clear hcz91_0
                try clear hcz91_1
                try clear hcz91_2
                try clear hcz92_0
                try clear hcz92_1
                try clear hcz92_2
                try clear hcz96_0
                try clear hcz96_1
                try clear hcz96_2
                try clear hcz98_0
                try clear hcz98_1
                try clear hcz98_2
                try clear hfz102_0
                try clear hfz102_1
                try clear hfz102_2
                try clear hfz104_0
                try clear hfz104_1
                try clear hfz104_2
                try clear hfz110_0
                try clear hfz110_1
                try clear hfz110_2
                try clear hfz112_0
                try clear hfz112_1
                try clear hfz112_2
                try clear hfz114_0
                try clear hfz114_1
                try clear hfz114_2
                try clear hfz115_0
                try clear hfz115_1
                try clear hfz115_2
                try clear hfz120_0
                try clear hfz120_1
                try clear hfz120_2
                try clear hfz122_0
                try clear hfz122_1
                try clear hfz122_2
                try clear hfz124_0
                try clear hfz124_1
                try clear hfz124_2
                try clear hfz125_0
                try clear hfz125_1
                try clear hfz125_2
                try clear hfz128_0
                try clear hfz128_1
                try clear hfz128_2
                try clear hfz130_0
                try clear hfz130_1
                try clear hfz130_2
                try clear hfz132_0
                try clear hfz132_1
                try clear hfz132_2
                try clear hfz133_0
                try clear hfz133_1
                try clear hfz133_2
                try clear hfz136_0
                try clear hfz136_1
                try clear hfz136_2
                try clear hfz138_0
                try clear hfz138_1
                try clear hfz138_2
                try clear hfz140_0
                try clear hfz140_1
                try clear hfz140_2
                try clear hfz141_0
                try clear hfz141_1
                try clear hfz141_2
                try clear hfz146_0
                try clear hfz146_1
                try clear hfz146_2
                try clear hfz148_0
                try clear hfz148_1
                try clear hfz148_2
                try clear hfz152_0
                try clear hfz152_1
                try clear hfz152_2
                try clear hfz154_0
                try clear hfz154_1
                try clear hfz154_2
                try clear hfz158_0
                try clear hfz158_1
                try clear hfz158_2
                try clear hfz160_0
                try clear hfz160_1
                try clear hfz160_2
                try clear hfz164_0
                try clear hfz164_1
                try clear hfz164_2
                try clear hfz166_0
                try clear hfz166_1
                try clear hfz166_2
                try clear hfz176_0
                try clear hfz176_1
                try clear hfz176_2
                try clear hfz178_0
                try clear hfz178_1
                try clear hfz178_2
                try clear hfz184_0
                try clear hfz184_1
                try clear hfz184_2
                try clear hfz185_0
                try clear hfz185_1
                try clear hfz185_2
                try clear hfz186_0
                try clear hfz186_1
                try clear hfz186_2
                try clear hfz188_0
                try clear hfz188_1
                try clear hfz188_2
                try clear hfz189_0
                try clear hfz189_1
                try clear hfz189_2
                try clear hfz191_0
                try clear hfz191_1
                try clear hfz191_2
                try clear hfz192_0
                try clear hfz192_1
                try clear hfz192_2
                try clear hfz204_0
                try clear hfz204_1
                try clear hfz204_2
                try clear hfz22_0
                try clear hfz22_1
                try clear hfz22_2
                try clear hfz24_0
                try clear hfz24_1
                try clear hfz24_2
                try clear hfz30_0
                try clear hfz30_1
                try clear hfz30_2
                try clear hfz32_0
                try clear hfz32_1
                try clear hfz32_2
                try clear hfz34_0
                try clear hfz34_1
                try clear hfz34_2
                try clear hfz35_0
                try clear hfz35_1
                try clear hfz35_2
                try clear hfz39_0
                try clear hfz39_1
                try clear hfz39_2
                try clear hfz41_0
                try clear hfz41_1
                try clear hfz41_2
                try clear hfz43_0
                try clear hfz43_1
                try clear hfz43_2
                try clear hfz44_0
                try clear hfz44_1
                try clear hfz44_2
                try clear hfz47_0
                try clear hfz47_1
                try clear hfz47_2
                try clear hfz49_0
                try clear hfz49_1
                try clear hfz49_2
                try clear hfz51_0
                try clear hfz51_1
                try clear hfz51_2
                try clear hfz52_0
                try clear hfz52_1
                try clear hfz52_2
                try clear hfz56_0
                try clear hfz56_1
                try clear hfz56_2
                try clear hfz58_0
                try clear hfz58_1
                try clear hfz58_2
                try clear hfz62_0
                try clear hfz62_1
                try clear hfz62_2
                try clear hfz64_0
                try clear hfz64_1
                try clear hfz64_2
                try clear hfz70_0
                try clear hfz70_1
                try clear hfz70_2
                try clear hfz72_0
                try clear hfz72_1
                try clear hfz72_2
                try clear hfz74_0
                try clear hfz74_1
                try clear hfz74_2
                try clear hfz75_0
                try clear hfz75_1
                try clear hfz75_2
                try clear hfz79_0
                try clear hfz79_1
                try clear hfz79_2
                try clear hfz81_0
                try clear hfz81_1
                try clear hfz81_2
                try clear hfz83_0
                try clear hfz83_1
                try clear hfz83_2
                try clear hfz84_0
                try clear hfz84_1
                try clear hfz84_2
                try clear hfz87_0
                try clear hfz87_1
                try clear hfz87_2
                try clear hfz89_0
                try clear hfz89_1
                try clear hfz89_2
                try clear hfz91_0
                try clear hfz91_1
                try clear hfz91_2
                try clear hfz92_0
                try clear hfz92_1
                try clear hfz92_2
                try clear hfz96_0
                try clear hfz96_1
                try clear hfz96_2
                try clear hfz98_0
                try clear hfz98_1
                try clear hfz98_2
                try clear p2
                try clear p6
                try clear p64
                obtain ⟨kq, x114_198, rfl, HA, HJ198, BK238, BK239, BK240, BK249, HB⟩ := hcut
                cases kq with
                | zero => exact absurd HA.out (by simp [chancerylaw17_ValueOrder.j2])
                | succ kj198 =>
                  have H := HA.out
                  clear HA
                  simp only [chancerylaw17_ValueOrder.j2] at H
                  by_cases c205 : x114_198 = true
                  · subst c205
                    have H1 : ((chancerylaw17_awake.f).bind fun t257 => (some t257)) = some r := by rw [if_pos rfl] at H; exact H
                    clear H
                    have H := H1
                    clear H1
                    replace H := Option.bind_eq_some_iff.mp H
                    obtain ⟨t257, A2060, H⟩ := H
                    replace H : (some t257) = some r := H
                    have A206 := Aside0.mk A2060
                    clear A2060
                    obtain rfl := Option.some.inj H
                    go_wp2_with (first | ((with_reducible refine gate_callee (f := 15) rfl ?_); refine goesL_ (some 115) rfl rfl Tryd.func15 (by kernel_rfl) rfl #[] rfl (by (try simp only [List.map_toArray, List.map_cons, List.map_nil]); first | done | rfl | (simp only [List.length_drop, List.length_take]; rfl)) ?_; (with_reducible refine (chancerylaw17_awake.calls  t257 _ A206.out (by first | exact HG.out | exact VOK.drawn HG.out ⟨⟨_, rfl⟩⟩ | exact VOK.below HG.out (by repeat (first | (with_reducible first | exact HB.out | apply below_alloc | apply pw_below_drewN | apply below_drew1) | exact HB.out)))).mono ?_); rintro e w207 ⟨rfl, hb⟩; refine ⟨_, rfl, ?_⟩; have n0_ := Aside0.mk (blk_below (g := gb238) (o := .cells #[.int .u8 a0_0, .int .i64 a0_1, .string a0_2] 25 (0, 0)) (by (with_reducible repeat (first | refine blk_drewN ?_ _ | refine blk_drew ?_ | refine blk_alloc ?_ _)); exact BK238.out) hb); have n1_ := Aside0.mk (blk_below (g := gb239) (o := .cells #[.int .u8 a1_0, .int .i64 a1_1, .string a1_2] 25 (0, 0)) (by (with_reducible repeat (first | refine blk_drewN ?_ _ | refine blk_drew ?_ | refine blk_alloc ?_ _)); exact BK239.out) hb); have n2_ := Aside0.mk (blk_below (g := gb240) (o := .cells #[.int .u8 a2_0, .int .i64 a2_1, .string a2_2] 25 (0, 0)) (by (with_reducible repeat (first | refine blk_drewN ?_ _ | refine blk_drew ?_ | refine blk_alloc ?_ _)); exact BK240.out) hb); have n3_ := Aside0.mk (blk_below (g := gb249) (o := .cells #[.int .u8 t245, .int .i64 t246, .string t247] 25 (0, 0)) (by (with_reducible repeat (first | refine blk_drewN ?_ _ | refine blk_drew ?_ | refine blk_alloc ?_ _)); exact BK249.out) hb); have n4_ := Aside0.mk (below_step (by repeat (first | (with_reducible first | exact HB.out | apply below_alloc | apply pw_below_drewN | apply below_drew1 | refine below_set ?_ GE238.out | refine below_set ?_ GE239.out | refine below_set ?_ GE240.out | refine below_set ?_ GE249.out) | exact HB.out)) hb); clear BK238; clear BK239; clear BK240; clear BK249; clear HB; have BK238 := n0_; have BK239 := n1_; have BK240 := n2_; have BK249 := n3_; have HB := n4_; clear n0_ n1_ n2_ n3_ n4_; (try clear hb); (try clear hb2); (try clear hk); (try clear hi)))
                    go_ret
                    exact ⟨by first | rfl | (simp [errW_none, errW_some] <;> rfl) | (simp [*, errW_none, errW_some] <;> rfl), by repeat (first | (with_reducible first | exact HB.out | apply below_alloc | apply pw_below_drewN | apply below_drew1 | refine below_set ?_ GE238.out | refine below_set ?_ GE239.out | refine below_set ?_ GE240.out | refine below_set ?_ GE249.out) | exact HB.out)⟩
                  · replace c205 := Bool.eq_false_iff.mpr c205
                    subst c205
                    have H1 : (if t251 = 0 then (if ((t250 == 1) == (decide (t246 < 0))) = true then (if ((t252 == 1) == (t246 == 0)) = true then ((chancerylaw17_awake.f).bind fun t258 => (some t258)) else (some false)) else (some false)) else (some false)) = some r := by rw [if_neg (show ¬ (false = true) by decide)] at H; exact H
                    clear H
                    have H := H1
                    clear H1
                    by_cases c208 : t251 = 0
                    · rw [if_pos c208] at H
                      have c208b0 : (t251 == 0) = true := beq_iff_eq.mpr c208
                      have c208b1 : (t251 != 0) = false := bne_eq_false_iff_eq.mpr c208
                      clear c208
                      by_cases c209 : ((t250 == 1) == (decide (t246 < 0))) = true
                      · rw [if_pos c209] at H
                        have c209b0 : ((t250 == 1) == (decide (t246 < 0))) = true := c209
                        (try (have c209b1 : decide ((t250 == 1) = (decide (t246 < 0))) = true := by simpa using c209))
                        (try (have c209b2 : ((t250 == 1) == (decide (t246 < 0))) = true := by simpa using c209))
                        clear c209
                        by_cases c210 : ((t252 == 1) == (t246 == 0)) = true
                        · rw [if_pos c210] at H
                          have c210b0 : ((t252 == 1) == (t246 == 0)) = true := c210
                          (try (have c210b1 : decide ((t252 == 1) = (t246 == 0)) = true := by simpa using c210))
                          (try (have c210b2 : ((t252 == 1) == (t246 == 0)) = true := by simpa using c210))
                          clear c210
                          replace H := Option.bind_eq_some_iff.mp H
                          obtain ⟨t258, A2110, H⟩ := H
                          replace H : (some t258) = some r := H
                          have A211 := Aside0.mk A2110
                          clear A2110
                          obtain rfl := Option.some.inj H
                          have hnb212 := NB249_238.out
                          have hnc212 := NB238_249.out
                          have hnb213 := NB249_239.out
                          have hnc213 := NB239_249.out
                          have hnb214 := NB249_240.out
                          have hnc214 := NB240_249.out
                          have hcz215_0 : wc.cell? ⟨gb249, 0, none⟩ = some (.int .u8 t245) := (blk_cell BK249.out 0).trans rfl
                          have hcz215_1 : wc.cell? ⟨gb249, 1, none⟩ = some (.int .i64 t246) := (blk_cell BK249.out 1).trans rfl
                          have hcz215_2 : wc.cell? ⟨gb249, 2, none⟩ = some (.string t247) := (blk_cell BK249.out 2).trans rfl
                          have hfz215_0 := blk_frozen BK249.out 0
                          have hfz215_1 := blk_frozen BK249.out 1
                          have hfz215_2 := blk_frozen BK249.out 2
                          go_wp2_with (first | (go_at_call 15; (with_reducible refine (chancerylaw17_awake.calls  t258 _ A211.out (by first | exact HG.out | exact VOK.drawn HG.out ⟨⟨_, rfl⟩⟩ | exact VOK.below HG.out (by repeat (first | (with_reducible first | exact HB.out | apply below_alloc | apply pw_below_drewN | apply below_drew1) | exact HB.out)))).mono ?_); rintro e w216 ⟨rfl, hb⟩; have n0_ := Aside0.mk (blk_below (g := gb238) (o := .cells #[.int .u8 a0_0, .int .i64 a0_1, .string a0_2] 25 (0, 0)) (by (with_reducible repeat (first | refine blk_drewN ?_ _ | refine blk_drew ?_ | refine blk_alloc ?_ _)); exact BK238.out) hb); have n1_ := Aside0.mk (blk_below (g := gb239) (o := .cells #[.int .u8 a1_0, .int .i64 a1_1, .string a1_2] 25 (0, 0)) (by (with_reducible repeat (first | refine blk_drewN ?_ _ | refine blk_drew ?_ | refine blk_alloc ?_ _)); exact BK239.out) hb); have n2_ := Aside0.mk (blk_below (g := gb240) (o := .cells #[.int .u8 a2_0, .int .i64 a2_1, .string a2_2] 25 (0, 0)) (by (with_reducible repeat (first | refine blk_drewN ?_ _ | refine blk_drew ?_ | refine blk_alloc ?_ _)); exact BK240.out) hb); have n3_ := Aside0.mk (blk_below (g := gb249) (o := .cells #[.int .u8 t245, .int .i64 t246, .string t247] 25 (0, 0)) (by (with_reducible repeat (first | refine blk_drewN ?_ _ | refine blk_drew ?_ | refine blk_alloc ?_ _)); exact BK249.out) hb); have n4_ := Aside0.mk (below_step (by repeat (first | (with_reducible first | exact HB.out | apply below_alloc | apply pw_below_drewN | apply below_drew1 | refine below_set ?_ GE238.out | refine below_set ?_ GE239.out | refine below_set ?_ GE240.out | refine below_set ?_ GE249.out) | exact HB.out)) hb); clear BK238; clear BK239; clear BK240; clear BK249; clear HB; have BK238 := n0_; have BK239 := n1_; have BK240 := n2_; have BK249 := n3_; have HB := n4_; clear n0_ n1_ n2_ n3_ n4_; (try clear hb); (try clear hb2); (try clear hk); (try clear hi)))
                          go_ret
                          exact ⟨by first | rfl | (simp [errW_none, errW_some] <;> rfl) | (simp [*, errW_none, errW_some] <;> rfl), by repeat (first | (with_reducible first | exact HB.out | apply below_alloc | apply pw_below_drewN | apply below_drew1 | refine below_set ?_ GE238.out | refine below_set ?_ GE239.out | refine below_set ?_ GE240.out | refine below_set ?_ GE249.out) | exact HB.out)⟩
                        · rw [if_neg c210] at H
                          have c210b0 : ((t252 == 1) == (t246 == 0)) = false := by simpa using c210
                          (try (have c210b1 : decide ((t252 == 1) = (t246 == 0)) = false := by simpa using c210))
                          (try (have c210b2 : ((t252 == 1) == (t246 == 0)) = false := by simpa using c210))
                          (try (have c210b3 : ¬ ((t252 == 1) = (t246 == 0)) := by simpa using c210))
                          clear c210
                          obtain rfl := Option.some.inj H
                          have hnb217 := NB249_238.out
                          have hnc217 := NB238_249.out
                          have hnb218 := NB249_239.out
                          have hnc218 := NB239_249.out
                          have hnb219 := NB249_240.out
                          have hnc219 := NB240_249.out
                          have hcz220_0 : wc.cell? ⟨gb249, 0, none⟩ = some (.int .u8 t245) := (blk_cell BK249.out 0).trans rfl
                          have hcz220_1 : wc.cell? ⟨gb249, 1, none⟩ = some (.int .i64 t246) := (blk_cell BK249.out 1).trans rfl
                          have hcz220_2 : wc.cell? ⟨gb249, 2, none⟩ = some (.string t247) := (blk_cell BK249.out 2).trans rfl
                          have hfz220_0 := blk_frozen BK249.out 0
                          have hfz220_1 := blk_frozen BK249.out 1
                          have hfz220_2 := blk_frozen BK249.out 2
                          go_wp2
                          go_ret
                          exact ⟨by first | rfl | (simp [errW_none, errW_some] <;> rfl) | (simp [*, errW_none, errW_some] <;> rfl), by repeat (first | (with_reducible first | exact HB.out | apply below_alloc | apply pw_below_drewN | apply below_drew1 | refine below_set ?_ GE238.out | refine below_set ?_ GE239.out | refine below_set ?_ GE240.out | refine below_set ?_ GE249.out) | exact HB.out)⟩
                      · rw [if_neg c209] at H
                        have c209b0 : ((t250 == 1) == (decide (t246 < 0))) = false := by simpa using c209
                        (try (have c209b1 : decide ((t250 == 1) = (decide (t246 < 0))) = false := by simpa using c209))
                        (try (have c209b2 : ((t250 == 1) == (decide (t246 < 0))) = false := by simpa using c209))
                        (try (have c209b3 : ¬ ((t250 == 1) = (decide (t246 < 0))) := by simpa using c209))
                        clear c209
                        obtain rfl := Option.some.inj H
                        have hnb221 := NB249_238.out
                        have hnc221 := NB238_249.out
                        have hnb222 := NB249_239.out
                        have hnc222 := NB239_249.out
                        have hnb223 := NB249_240.out
                        have hnc223 := NB240_249.out
                        have hcz224_0 : wc.cell? ⟨gb249, 0, none⟩ = some (.int .u8 t245) := (blk_cell BK249.out 0).trans rfl
                        have hcz224_1 : wc.cell? ⟨gb249, 1, none⟩ = some (.int .i64 t246) := (blk_cell BK249.out 1).trans rfl
                        have hcz224_2 : wc.cell? ⟨gb249, 2, none⟩ = some (.string t247) := (blk_cell BK249.out 2).trans rfl
                        have hfz224_0 := blk_frozen BK249.out 0
                        have hfz224_1 := blk_frozen BK249.out 1
                        have hfz224_2 := blk_frozen BK249.out 2
                        go_wp2
                        go_ret
                        exact ⟨by first | rfl | (simp [errW_none, errW_some] <;> rfl) | (simp [*, errW_none, errW_some] <;> rfl), by repeat (first | (with_reducible first | exact HB.out | apply below_alloc | apply pw_below_drewN | apply below_drew1 | refine below_set ?_ GE238.out | refine below_set ?_ GE239.out | refine below_set ?_ GE240.out | refine below_set ?_ GE249.out) | exact HB.out)⟩
                    · rw [if_neg c208] at H
                      have c208b0 : (t251 == 0) = false := beq_eq_false_iff_ne.mpr c208
                      have c208b1 : (t251 != 0) = true := bne_iff_ne.mpr c208
                      obtain rfl := Option.some.inj H
                      go_wp2
                      go_ret
                      exact ⟨by first | rfl | (simp [errW_none, errW_some] <;> rfl) | (simp [*, errW_none, errW_some] <;> rfl), by repeat (first | (with_reducible first | exact HB.out | apply below_alloc | apply pw_below_drewN | apply below_drew1 | refine below_set ?_ GE238.out | refine below_set ?_ GE239.out | refine below_set ?_ GE240.out | refine below_set ?_ GE249.out) | exact HB.out)⟩

end Go.Proofs.YtbodlnoipkommaaDoor.Q

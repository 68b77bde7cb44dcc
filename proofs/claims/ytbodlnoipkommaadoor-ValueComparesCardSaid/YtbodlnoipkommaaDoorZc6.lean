/- Merged out of this session's texts: Rb, Rd, Rc -/
import Derived.Test.YtbodlnoipkommaaDoorProg
import Derived.Test.YtbodlnoipkommaaDoorZc1
import Derived.WalkKit
import Derived.WalkSpells
import Derived.StillTactics
import Derived.Laws.Pointers
import Derived.RowKit3
import Derived.LoopN
import Derived.Deep.QuietTactic
import Derived.BigQuiet
import Derived.Test.YtbodlnoipkommaaDoorZc5
namespace Go.Proofs.YtbodlnoipkommaaDoor.Rb
open Go.Proofs.YtbodlnoipkommaaDoor.Ra
open Go.RowKit Go.Proofs.YtbodlnoipkommaaDoorW.PrintWords Go.Proofs.YtbodlnoipkommaaDoorW.PrintLast Go.Proofs.YtbodlnoipkommaaDoorW.PrintMore
theorem set_ok {w W : World} (h : Below w.heap.size w W) {b o : Nat} (hb : w.heap.size ≤ b) (v : Value) : Below w.heap.size w (W.setCell ⟨b, o, none⟩ v) := h.setCell hb v
theorem drew_ok {B : Nat} {a w : World} (h : Below B a w) (n : Nat) : Below B a (w.drewN n) := h.trans ⟨rfl, rfl, rfl, Nat.le_refl _, fun _ _ => rfl⟩
set_option maxRecDepth 100000 in
set_option maxHeartbeats 1000000 in
theorem plus_walk (a0 a1 a2 a3 a4 b0 b1 b2 b3 b4 s0 s1 s2 s3 s4 o0 o1 o2 o3 o4 c1 c2 c3 c4 c5 : Int) (w : World) (la0 : 0 ≤ a0) (ua0 : a0 < 4294967296) (la1 : 0 ≤ a1) (ua1 : a1 < 4294967296) (la2 : 0 ≤ a2) (ua2 : a2 < 4294967296) (la3 : 0 ≤ a3) (ua3 : a3 < 4294967296) (la4 : 0 ≤ a4) (ua4 : a4 < 4294967296) (lb0 : 0 ≤ b0) (ub0 : b0 < 4294967296) (lb1 : 0 ≤ b1) (ub1 : b1 < 4294967296) (lb2 : 0 ≤ b2) (ub2 : b2 < 4294967296) (lb3 : 0 ≤ b3) (ub3 : b3 < 4294967296) (lb4 : 0 ≤ b4) (ub4 : b4 < 4294967296) (e0 : a0 + b0 = s0) (ls0 : 0 ≤ s0) (us0 : s0 < 18446744073709551616) (f0 : s0 % 4294967296 = o0) (g0 : s0 / 4294967296 = c1) (lc1 : 0 ≤ c1) (uc1 : c1 < 4294967296) (e1 : a1 + b1 + c1 = s1) (ls1 : 0 ≤ s1) (us1 : s1 < 18446744073709551616) (f1 : s1 % 4294967296 = o1) (g1 : s1 / 4294967296 = c2) (lc2 : 0 ≤ c2) (uc2 : c2 < 4294967296) (e2 : a2 + b2 + c2 = s2) (ls2 : 0 ≤ s2) (us2 : s2 < 18446744073709551616) (f2 : s2 % 4294967296 = o2) (g2 : s2 / 4294967296 = c3) (lc3 : 0 ≤ c3) (uc3 : c3 < 4294967296) (e3 : a3 + b3 + c3 = s3) (ls3 : 0 ≤ s3) (us3 : s3 < 18446744073709551616) (f3 : s3 % 4294967296 = o3) (g3 : s3 / 4294967296 = c4) (lc4 : 0 ≤ c4) (uc4 : c4 < 4294967296) (e4 : a4 + b4 + c4 = s4) (ls4 : 0 ≤ s4) (us4 : s4 < 18446744073709551616) (f4 : s4 % 4294967296 = o4) (g4 : s4 / 4294967296 = c5) (lc5 : 0 ≤ c5) (uc5 : c5 < 4294967296) :
    Calls Tryd.prog 69 #[.agg #[.int .u64 a0, .int .u64 a1, .int .u64 a2, .int .u64 a3, .int .u64 a4], .agg #[.int .u64 b0, .int .u64 b1, .int .u64 b2, .int .u64 b3, .int .u64 b4]] w fun e w' => e = .returned (.agg #[.int .u64 o0, .int .u64 o1, .int .u64 o2, .int .u64 o3, .int .u64 o4]) ∧ Below w.heap.size w w' := by
  go_enter Tryd.func69, Tryd.ntmps69
  go_wp2_with fail
  refine wp_loop_rounds 6 ?_
  rw [rounds_succ]
  go_wp2_with fail
  go_quiet (fail)
  go_wp2_with fail
  rw [rounds_succ]
  go_wp2_with fail
  go_quiet (fail)
  go_wp2_with fail
  rw [rounds_succ]
  go_wp2_with fail
  go_quiet (fail)
  go_wp2_with fail
  rw [rounds_succ]
  go_wp2_with fail
  go_quiet (fail)
  go_wp2_with fail
  rw [rounds_succ]
  go_wp2_with fail
  go_quiet (fail)
  go_wp2_with fail
  rw [rounds_succ]
  go_wp2_with fail
  simp [bodyPost, results, Tryd.results69, go_sem]
  try refine ⟨by assumption, ?_⟩
  repeat' (first | with_reducible exact Below.refl _ _ | with_reducible refine drew_ok ?_ _ | with_reducible refine set_ok ?_ ?_ _ | with_reducible refine below_alloc ?_ _)
  all_goals first | omega | trace_state
def chanceryref17_plus.f (a0 a1 a2 a3 a4 b0 b1 b2 b3 b4 : Int) : Option (Int × Int × Int × Int × Int) :=
  if Digs a0 a1 a2 a3 a4 ∧ Digs b0 b1 b2 b3 b4 then some (d0 (num a0 a1 a2 a3 a4 + num b0 b1 b2 b3 b4), d1 (num a0 a1 a2 a3 a4 + num b0 b1 b2 b3 b4), d2 (num a0 a1 a2 a3 a4 + num b0 b1 b2 b3 b4), d3 (num a0 a1 a2 a3 a4 + num b0 b1 b2 b3 b4), d4 (num a0 a1 a2 a3 a4 + num b0 b1 b2 b3 b4)) else none
set_option maxRecDepth 100000 in
set_option maxHeartbeats 1000000 in
theorem chanceryref17_plus.calls (a0 a1 a2 a3 a4 b0 b1 b2 b3 b4 : Int) (r1 r2 r3 r4 r5 : Int) (w : World) (h : chanceryref17_plus.f a0 a1 a2 a3 a4 b0 b1 b2 b3 b4 = some (r1, r2, r3, r4, r5)) :
    Calls Tryd.prog 69 #[.agg #[.int .u64 a0, .int .u64 a1, .int .u64 a2, .int .u64 a3, .int .u64 a4], .agg #[.int .u64 b0, .int .u64 b1, .int .u64 b2, .int .u64 b3, .int .u64 b4]] w fun e w' => e = .returned (.agg #[.int .u64 r1, .int .u64 r2, .int .u64 r3, .int .u64 r4, .int .u64 r5]) ∧ Below w.heap.size w w' := by
  unfold chanceryref17_plus.f at h
  by_cases hc : Digs a0 a1 a2 a3 a4 ∧ Digs b0 b1 b2 b3 b4
  case neg => rw [if_neg hc] at h; cases h
  rw [if_pos hc] at h
  injection h with h
  simp only [Prod.mk.injEq] at h
  obtain ⟨q1, q2, q3, q4, q5⟩ := h
  obtain ⟨⟨⟨la0, ua0⟩, ⟨la1, ua1⟩, ⟨la2, ua2⟩, ⟨la3, ua3⟩, la4, ua4⟩, ⟨lb0, ub0⟩, ⟨lb1, ub1⟩, ⟨lb2, ub2⟩, ⟨lb3, ub3⟩, lb4, ub4⟩ := hc
  obtain ⟨s0, e0⟩ : ∃ s, a0 + b0 = s := ⟨_, rfl⟩
  obtain ⟨o0, f0⟩ : ∃ o, s0 % 4294967296 = o := ⟨_, rfl⟩
  obtain ⟨c1, g0⟩ : ∃ c, s0 / 4294967296 = c := ⟨_, rfl⟩
  have lc1 : 0 ≤ c1 := by omega
  have uc1 : c1 ≤ 1 := by omega
  obtain ⟨s1, e1⟩ : ∃ s, a1 + b1 + c1 = s := ⟨_, rfl⟩
  obtain ⟨o1, f1⟩ : ∃ o, s1 % 4294967296 = o := ⟨_, rfl⟩
  obtain ⟨c2, g1⟩ : ∃ c, s1 / 4294967296 = c := ⟨_, rfl⟩
  have lc2 : 0 ≤ c2 := by omega
  have uc2 : c2 ≤ 1 := by omega
  obtain ⟨s2, e2⟩ : ∃ s, a2 + b2 + c2 = s := ⟨_, rfl⟩
  obtain ⟨o2, f2⟩ : ∃ o, s2 % 4294967296 = o := ⟨_, rfl⟩
  obtain ⟨c3, g2⟩ : ∃ c, s2 / 4294967296 = c := ⟨_, rfl⟩
  have lc3 : 0 ≤ c3 := by omega
  have uc3 : c3 ≤ 1 := by omega
  obtain ⟨s3, e3⟩ : ∃ s, a3 + b3 + c3 = s := ⟨_, rfl⟩
  obtain ⟨o3, f3⟩ : ∃ o, s3 % 4294967296 = o := ⟨_, rfl⟩
  obtain ⟨c4, g3⟩ : ∃ c, s3 / 4294967296 = c := ⟨_, rfl⟩
  have lc4 : 0 ≤ c4 := by omega
  have uc4 : c4 ≤ 1 := by omega
  obtain ⟨s4, e4⟩ : ∃ s, a4 + b4 + c4 = s := ⟨_, rfl⟩
  obtain ⟨o4, f4⟩ : ∃ o, s4 % 4294967296 = o := ⟨_, rfl⟩
  obtain ⟨c5, g4⟩ : ∃ c, s4 / 4294967296 = c := ⟨_, rfl⟩
  have lc5 : 0 ≤ c5 := by omega
  have uc5 : c5 ≤ 1 := by omega
  have hf := five_eq (num a0 a1 a2 a3 a4 + num b0 b1 b2 b3 b4) o0 o1 o2 o3 o4 (c5) (by omega) (by omega) (by omega) (by omega) (by omega) (by omega) (by omega) (by omega) (by omega) (by omega) (by simp only [num]; omega)
  obtain ⟨p0, p1, p2, p3, p4⟩ := hf
  rw [← p0] at q1; rw [← p1] at q2; rw [← p2] at q3; rw [← p3] at q4; rw [← p4] at q5
  subst q1 q2 q3 q4 q5
  exact plus_walk a0 a1 a2 a3 a4 b0 b1 b2 b3 b4 s0 s1 s2 s3 s4 o0 o1 o2 o3 o4 c1 c2 c3 c4 c5 w la0 ua0 la1 ua1 la2 ua2 la3 ua3 la4 ua4 lb0 ub0 lb1 ub1 lb2 ub2 lb3 ub3 lb4 ub4 e0 (by omega) (by omega) f0 g0 lc1 (by omega) e1 (by omega) (by omega) f1 g1 lc2 (by omega) e2 (by omega) (by omega) f2 g2 lc3 (by omega) e3 (by omega) (by omega) f3 g3 lc4 (by omega) e4 (by omega) (by omega) f4 g4 lc5 (by omega)
set_option maxRecDepth 100000 in
set_option maxHeartbeats 1000000 in
theorem minus_walk (a0 a1 a2 a3 a4 b0 b1 b2 b3 b4 s0 s1 s2 s3 s4 o0 o1 o2 o3 o4 c1 c2 c3 c4 c5 : Int) (w : World) (la0 : 0 ≤ a0) (ua0 : a0 < 4294967296) (la1 : 0 ≤ a1) (ua1 : a1 < 4294967296) (la2 : 0 ≤ a2) (ua2 : a2 < 4294967296) (la3 : 0 ≤ a3) (ua3 : a3 < 4294967296) (la4 : 0 ≤ a4) (ua4 : a4 < 4294967296) (lb0 : 0 ≤ b0) (ub0 : b0 < 4294967296) (lb1 : 0 ≤ b1) (ub1 : b1 < 4294967296) (lb2 : 0 ≤ b2) (ub2 : b2 < 4294967296) (lb3 : 0 ≤ b3) (ub3 : b3 < 4294967296) (lb4 : 0 ≤ b4) (ub4 : b4 < 4294967296) (e0 : a0 + 4294967296 - b0 = s0) (ls0 : 0 ≤ s0) (us0 : s0 < 18446744073709551616) (f0 : s0 % 4294967296 = o0) (g0 : 1 - s0 / 4294967296 = c1) (lc1 : 0 ≤ c1) (uc1 : c1 ≤ 1) (e1 : a1 + 4294967296 - b1 - c1 = s1) (ls1 : 0 ≤ s1) (us1 : s1 < 18446744073709551616) (f1 : s1 % 4294967296 = o1) (g1 : 1 - s1 / 4294967296 = c2) (lc2 : 0 ≤ c2) (uc2 : c2 ≤ 1) (e2 : a2 + 4294967296 - b2 - c2 = s2) (ls2 : 0 ≤ s2) (us2 : s2 < 18446744073709551616) (f2 : s2 % 4294967296 = o2) (g2 : 1 - s2 / 4294967296 = c3) (lc3 : 0 ≤ c3) (uc3 : c3 ≤ 1) (e3 : a3 + 4294967296 - b3 - c3 = s3) (ls3 : 0 ≤ s3) (us3 : s3 < 18446744073709551616) (f3 : s3 % 4294967296 = o3) (g3 : 1 - s3 / 4294967296 = c4) (lc4 : 0 ≤ c4) (uc4 : c4 ≤ 1) (e4 : a4 + 4294967296 - b4 - c4 = s4) (ls4 : 0 ≤ s4) (us4 : s4 < 18446744073709551616) (f4 : s4 % 4294967296 = o4) (g4 : 1 - s4 / 4294967296 = c5) (lc5 : 0 ≤ c5) (uc5 : c5 ≤ 1) :
    Calls Tryd.prog 76 #[.agg #[.int .u64 a0, .int .u64 a1, .int .u64 a2, .int .u64 a3, .int .u64 a4], .agg #[.int .u64 b0, .int .u64 b1, .int .u64 b2, .int .u64 b3, .int .u64 b4]] w fun e w' => e = .returned (.agg #[.int .u64 o0, .int .u64 o1, .int .u64 o2, .int .u64 o3, .int .u64 o4]) ∧ Below w.heap.size w w' := by
  go_enter Tryd.func76, Tryd.ntmps76
  go_wp2_with fail
  refine wp_loop_rounds 6 ?_
  rw [rounds_succ]
  go_wp2_with fail
  go_quiet (fail)
  go_wp2_with fail
  rw [rounds_succ]
  go_wp2_with fail
  go_quiet (fail)
  go_wp2_with fail
  rw [rounds_succ]
  go_wp2_with fail
  go_quiet (fail)
  go_wp2_with fail
  rw [rounds_succ]
  go_wp2_with fail
  go_quiet (fail)
  go_wp2_with fail
  rw [rounds_succ]
  go_wp2_with fail
  go_quiet (fail)
  go_wp2_with fail
  rw [rounds_succ]
  go_wp2_with fail
  simp [bodyPost, results, Tryd.results76, go_sem]
  try refine ⟨by assumption, ?_⟩
  repeat' (first | with_reducible exact Below.refl _ _ | with_reducible refine drew_ok ?_ _ | with_reducible refine set_ok ?_ ?_ _ | with_reducible refine below_alloc ?_ _)
  all_goals first | omega | trace_state
def chanceryref17_minus.f (a0 a1 a2 a3 a4 b0 b1 b2 b3 b4 : Int) : Option (Int × Int × Int × Int × Int) :=
  if Digs a0 a1 a2 a3 a4 ∧ Digs b0 b1 b2 b3 b4 then some (d0 (num a0 a1 a2 a3 a4 - num b0 b1 b2 b3 b4), d1 (num a0 a1 a2 a3 a4 - num b0 b1 b2 b3 b4), d2 (num a0 a1 a2 a3 a4 - num b0 b1 b2 b3 b4), d3 (num a0 a1 a2 a3 a4 - num b0 b1 b2 b3 b4), d4 (num a0 a1 a2 a3 a4 - num b0 b1 b2 b3 b4)) else none
set_option maxRecDepth 100000 in
set_option maxHeartbeats 1000000 in
theorem chanceryref17_minus.calls (a0 a1 a2 a3 a4 b0 b1 b2 b3 b4 : Int) (r1 r2 r3 r4 r5 : Int) (w : World) (h : chanceryref17_minus.f a0 a1 a2 a3 a4 b0 b1 b2 b3 b4 = some (r1, r2, r3, r4, r5)) :
    Calls Tryd.prog 76 #[.agg #[.int .u64 a0, .int .u64 a1, .int .u64 a2, .int .u64 a3, .int .u64 a4], .agg #[.int .u64 b0, .int .u64 b1, .int .u64 b2, .int .u64 b3, .int .u64 b4]] w fun e w' => e = .returned (.agg #[.int .u64 r1, .int .u64 r2, .int .u64 r3, .int .u64 r4, .int .u64 r5]) ∧ Below w.heap.size w w' := by
  unfold chanceryref17_minus.f at h
  by_cases hc : Digs a0 a1 a2 a3 a4 ∧ Digs b0 b1 b2 b3 b4
  case neg => rw [if_neg hc] at h; cases h
  rw [if_pos hc] at h
  injection h with h
  simp only [Prod.mk.injEq] at h
  obtain ⟨q1, q2, q3, q4, q5⟩ := h
  obtain ⟨⟨⟨la0, ua0⟩, ⟨la1, ua1⟩, ⟨la2, ua2⟩, ⟨la3, ua3⟩, la4, ua4⟩, ⟨lb0, ub0⟩, ⟨lb1, ub1⟩, ⟨lb2, ub2⟩, ⟨lb3, ub3⟩, lb4, ub4⟩ := hc
  obtain ⟨s0, e0⟩ : ∃ s, a0 + 4294967296 - b0 = s := ⟨_, rfl⟩
  obtain ⟨o0, f0⟩ : ∃ o, s0 % 4294967296 = o := ⟨_, rfl⟩
  obtain ⟨c1, g0⟩ : ∃ c, 1 - s0 / 4294967296 = c := ⟨_, rfl⟩
  have lc1 : 0 ≤ c1 := by omega
  have uc1 : c1 ≤ 1 := by omega
  obtain ⟨s1, e1⟩ : ∃ s, a1 + 4294967296 - b1 - c1 = s := ⟨_, rfl⟩
  obtain ⟨o1, f1⟩ : ∃ o, s1 % 4294967296 = o := ⟨_, rfl⟩
  obtain ⟨c2, g1⟩ : ∃ c, 1 - s1 / 4294967296 = c := ⟨_, rfl⟩
  have lc2 : 0 ≤ c2 := by omega
  have uc2 : c2 ≤ 1 := by omega
  obtain ⟨s2, e2⟩ : ∃ s, a2 + 4294967296 - b2 - c2 = s := ⟨_, rfl⟩
  obtain ⟨o2, f2⟩ : ∃ o, s2 % 4294967296 = o := ⟨_, rfl⟩
  obtain ⟨c3, g2⟩ : ∃ c, 1 - s2 / 4294967296 = c := ⟨_, rfl⟩
  have lc3 : 0 ≤ c3 := by omega
  have uc3 : c3 ≤ 1 := by omega
  obtain ⟨s3, e3⟩ : ∃ s, a3 + 4294967296 - b3 - c3 = s := ⟨_, rfl⟩
  obtain ⟨o3, f3⟩ : ∃ o, s3 % 4294967296 = o := ⟨_, rfl⟩
  obtain ⟨c4, g3⟩ : ∃ c, 1 - s3 / 4294967296 = c := ⟨_, rfl⟩
  have lc4 : 0 ≤ c4 := by omega
  have uc4 : c4 ≤ 1 := by omega
  obtain ⟨s4, e4⟩ : ∃ s, a4 + 4294967296 - b4 - c4 = s := ⟨_, rfl⟩
  obtain ⟨o4, f4⟩ : ∃ o, s4 % 4294967296 = o := ⟨_, rfl⟩
  obtain ⟨c5, g4⟩ : ∃ c, 1 - s4 / 4294967296 = c := ⟨_, rfl⟩
  have lc5 : 0 ≤ c5 := by omega
  have uc5 : c5 ≤ 1 := by omega
  have hf := five_eq (num a0 a1 a2 a3 a4 - num b0 b1 b2 b3 b4) o0 o1 o2 o3 o4 (-c5) (by omega) (by omega) (by omega) (by omega) (by omega) (by omega) (by omega) (by omega) (by omega) (by omega) (by simp only [num]; omega)
  obtain ⟨p0, p1, p2, p3, p4⟩ := hf
  rw [← p0] at q1; rw [← p1] at q2; rw [← p2] at q3; rw [← p3] at q4; rw [← p4] at q5
  subst q1 q2 q3 q4 q5
  exact minus_walk a0 a1 a2 a3 a4 b0 b1 b2 b3 b4 s0 s1 s2 s3 s4 o0 o1 o2 o3 o4 c1 c2 c3 c4 c5 w la0 ua0 la1 ua1 la2 ua2 la3 ua3 la4 ua4 lb0 ub0 lb1 ub1 lb2 ub2 lb3 ub3 lb4 ub4 e0 (by omega) (by omega) f0 g0 lc1 uc1 e1 (by omega) (by omega) f1 g1 lc2 uc2 e2 (by omega) (by omega) f2 g2 lc3 uc3 e3 (by omega) (by omega) f3 g3 lc4 uc4 e4 (by omega) (by omega) f4 g4 lc5 uc5
end Go.Proofs.YtbodlnoipkommaaDoor.Rb
namespace Go.Proofs.YtbodlnoipkommaaDoor.Rd
open Go.Proofs.YtbodlnoipkommaaDoor.Ra Go.Proofs.YtbodlnoipkommaaDoor.Rb
open Go.RowKit Go.Proofs.YtbodlnoipkommaaDoorW.PrintWords Go.Proofs.YtbodlnoipkommaaDoorW.PrintLast Go.Proofs.YtbodlnoipkommaaDoorW.PrintMore
def St (w : World) (s z : Bool) (a0 a1 b0 b1 r0 r1 r2 r3 r4 : Int) (W : World) : Prop :=
  Below w.heap.size w W ∧ W.heap[w.heap.size]? = some (.cells #[.bool s, .int .u64 a0, .int .u64 a1, .int .u64 0, .int .u64 0, .int .u64 0] 56 (0, 0))
  ∧ W.heap[w.heap.size + 1]? = some (.cells #[.bool z, .int .u64 b0, .int .u64 b1, .int .u64 0, .int .u64 0, .int .u64 0] 56 (0, 0))
  ∧ W.heap[w.heap.size + 2]? = some (.cells #[.bool false, .int .u64 0, .int .u64 0, .int .u64 0, .int .u64 0, .int .u64 0] 56 (0, 0))
  ∧ W.heap[w.heap.size + 3]? = some (.cells #[.int .u64 r0, .int .u64 r1, .int .u64 r2, .int .u64 r3, .int .u64 r4] 54 (0, 0))
variable {w W : World} {s z : Bool} {a0 a1 b0 b1 r0 r1 r2 r3 r4 : Int}
theorem St.drew (h : St w s z a0 a1 b0 b1 r0 r1 r2 r3 r4 W) (n : Nat) : St w s z a0 a1 b0 b1 r0 r1 r2 r3 r4 (W.drewN n) := ⟨drew_ok h.1 n, h.2.1, h.2.2.1, h.2.2.2.1, h.2.2.2.2⟩
theorem heap_other (W : World) (b o k : Nat) (v : Value) (h : k ≠ b) : (W.setCell ⟨b, o, none⟩ v).heap[k]? = W.heap[k]? := Below.heap_setCell W ⟨b, o, none⟩ v k h
theorem heap_same (W : World) (b o : Nat) (v : Value) (cs : Array Value) (t : TypeId) (h : W.heap[b]? = some (.cells cs t (0, 0))) : (W.setCell ⟨b, o, none⟩ v).heap[b]? = some (.cells (cs.setIfInBounds o v) t (0, 0)) := by
  unfold World.setCell
  simp [Array.getElem?_modify, h]
theorem St.set0 (h : St w s z a0 a1 b0 b1 r0 r1 r2 r3 r4 W) (x : Int) : St w s z a0 a1 b0 b1 x r1 r2 r3 r4 (W.setCell ⟨w.heap.size + 1 + 1 + 1, 0, none⟩ (.int .u64 x)) :=
  ⟨set_ok h.1 (by omega) _, (heap_other W _ _ _ _ (by omega)).trans h.2.1, (heap_other W _ _ _ _ (by omega)).trans h.2.2.1, (heap_other W _ _ _ _ (by omega)).trans h.2.2.2.1, heap_same W _ _ _ _ _ h.2.2.2.2⟩
theorem St.set1 (h : St w s z a0 a1 b0 b1 r0 r1 r2 r3 r4 W) (x : Int) : St w s z a0 a1 b0 b1 r0 x r2 r3 r4 (W.setCell ⟨w.heap.size + 1 + 1 + 1, 1, none⟩ (.int .u64 x)) :=
  ⟨set_ok h.1 (by omega) _, (heap_other W _ _ _ _ (by omega)).trans h.2.1, (heap_other W _ _ _ _ (by omega)).trans h.2.2.1, (heap_other W _ _ _ _ (by omega)).trans h.2.2.2.1, heap_same W _ _ _ _ _ h.2.2.2.2⟩
theorem St.set2 (h : St w s z a0 a1 b0 b1 r0 r1 r2 r3 r4 W) (x : Int) : St w s z a0 a1 b0 b1 r0 r1 x r3 r4 (W.setCell ⟨w.heap.size + 1 + 1 + 1, 2, none⟩ (.int .u64 x)) :=
  ⟨set_ok h.1 (by omega) _, (heap_other W _ _ _ _ (by omega)).trans h.2.1, (heap_other W _ _ _ _ (by omega)).trans h.2.2.1, (heap_other W _ _ _ _ (by omega)).trans h.2.2.2.1, heap_same W _ _ _ _ _ h.2.2.2.2⟩
theorem St.set3 (h : St w s z a0 a1 b0 b1 r0 r1 r2 r3 r4 W) (x : Int) : St w s z a0 a1 b0 b1 r0 r1 r2 x r4 (W.setCell ⟨w.heap.size + 1 + 1 + 1, 3, none⟩ (.int .u64 x)) :=
  ⟨set_ok h.1 (by omega) _, (heap_other W _ _ _ _ (by omega)).trans h.2.1, (heap_other W _ _ _ _ (by omega)).trans h.2.2.1, (heap_other W _ _ _ _ (by omega)).trans h.2.2.2.1, heap_same W _ _ _ _ _ h.2.2.2.2⟩
theorem St.set4 (h : St w s z a0 a1 b0 b1 r0 r1 r2 r3 r4 W) (x : Int) : St w s z a0 a1 b0 b1 r0 r1 r2 r3 x (W.setCell ⟨w.heap.size + 1 + 1 + 1, 4, none⟩ (.int .u64 x)) :=
  ⟨set_ok h.1 (by omega) _, (heap_other W _ _ _ _ (by omega)).trans h.2.1, (heap_other W _ _ _ _ (by omega)).trans h.2.2.1, (heap_other W _ _ _ _ (by omega)).trans h.2.2.2.1, heap_same W _ _ _ _ _ h.2.2.2.2⟩
theorem St.start (w : World) (s z : Bool) (a0 a1 b0 b1 : Int) : St w s z a0 a1 b0 b1 0 0 0 0 0 ((((w.alloc (.cells #[.bool s, .int .u64 a0, .int .u64 a1, .int .u64 0, .int .u64 0, .int .u64 0] 56)).alloc (.cells #[.bool z, .int .u64 b0, .int .u64 b1, .int .u64 0, .int .u64 0, .int .u64 0] 56)).alloc (.cells #[.bool false, .int .u64 0, .int .u64 0, .int .u64 0, .int .u64 0, .int .u64 0] 56)).alloc (.cells #[.int .u64 0, .int .u64 0, .int .u64 0, .int .u64 0, .int .u64 0] 54)) := by
  have e (w : World) (o : Obj) : (w.alloc o).heap.size = w.heap.size + 1 := Array.size_push _
  refine ⟨below_alloc (below_alloc (below_alloc (below_alloc (Below.refl _ _) _) _) _) _, blk_alloc (blk_alloc (blk_alloc (blk_new w _) _) _) _, ?_, ?_, ?_⟩
  · have h := blk_alloc (blk_alloc (blk_new (w.alloc (.cells #[.bool s, .int .u64 a0, .int .u64 a1, .int .u64 0, .int .u64 0, .int .u64 0] 56)) (.cells #[.bool z, .int .u64 b0, .int .u64 b1, .int .u64 0, .int .u64 0, .int .u64 0] 56)) (.cells #[.bool false, .int .u64 0, .int .u64 0, .int .u64 0, .int .u64 0, .int .u64 0] 56)) (.cells #[.int .u64 0, .int .u64 0, .int .u64 0, .int .u64 0, .int .u64 0] 54)
    rwa [e] at h
  · have h := blk_alloc (blk_new ((w.alloc (.cells #[.bool s, .int .u64 a0, .int .u64 a1, .int .u64 0, .int .u64 0, .int .u64 0] 56)).alloc (.cells #[.bool z, .int .u64 b0, .int .u64 b1, .int .u64 0, .int .u64 0, .int .u64 0] 56)) (.cells #[.bool false, .int .u64 0, .int .u64 0, .int .u64 0, .int .u64 0, .int .u64 0] 56)) (.cells #[.int .u64 0, .int .u64 0, .int .u64 0, .int .u64 0, .int .u64 0] 54)
    rwa [e, e] at h
  · have h := blk_new (((w.alloc (.cells #[.bool s, .int .u64 a0, .int .u64 a1, .int .u64 0, .int .u64 0, .int .u64 0] 56)).alloc (.cells #[.bool z, .int .u64 b0, .int .u64 b1, .int .u64 0, .int .u64 0, .int .u64 0] 56)).alloc (.cells #[.bool false, .int .u64 0, .int .u64 0, .int .u64 0, .int .u64 0, .int .u64 0] 56)) (.cells #[.int .u64 0, .int .u64 0, .int .u64 0, .int .u64 0, .int .u64 0] 54)
    rwa [e, e, e] at h
theorem cutw {G : Act → World → Prop} {a : Act} {W : World} (S : World → Prop) (h : S W) (k : ∀ W', S W' → G a W') : G a W := k W h
theorem St.facts (h : St w s z a0 a1 b0 b1 r0 r1 r2 r3 r4 W) : W.cell? ⟨w.heap.size, 0, none⟩ = some (.bool s) ∧ W.cell? ⟨w.heap.size, 1, none⟩ = some (.int .u64 a0) ∧ W.cell? ⟨w.heap.size, 2, none⟩ = some (.int .u64 a1) ∧ W.cell? ⟨w.heap.size, 3, none⟩ = some (.int .u64 0) ∧ W.cell? ⟨w.heap.size, 4, none⟩ = some (.int .u64 0) ∧ W.cell? ⟨w.heap.size, 5, none⟩ = some (.int .u64 0) ∧ W.cell? ⟨w.heap.size + 1, 0, none⟩ = some (.bool z) ∧ W.cell? ⟨w.heap.size + 1, 1, none⟩ = some (.int .u64 b0) ∧ W.cell? ⟨w.heap.size + 1, 2, none⟩ = some (.int .u64 b1) ∧ W.cell? ⟨w.heap.size + 1, 3, none⟩ = some (.int .u64 0) ∧ W.cell? ⟨w.heap.size + 1, 4, none⟩ = some (.int .u64 0) ∧ W.cell? ⟨w.heap.size + 1, 5, none⟩ = some (.int .u64 0) ∧ W.cell? ⟨w.heap.size + 1 + 1, 0, none⟩ = some (.bool false) ∧ W.cell? ⟨w.heap.size + 1 + 1, 1, none⟩ = some (.int .u64 0) ∧ W.cell? ⟨w.heap.size + 1 + 1, 2, none⟩ = some (.int .u64 0) ∧ W.cell? ⟨w.heap.size + 1 + 1, 3, none⟩ = some (.int .u64 0) ∧ W.cell? ⟨w.heap.size + 1 + 1, 4, none⟩ = some (.int .u64 0) ∧ W.cell? ⟨w.heap.size + 1 + 1, 5, none⟩ = some (.int .u64 0) ∧ W.cell? ⟨w.heap.size + 1 + 1 + 1, 0, none⟩ = some (.int .u64 r0) ∧ W.cell? ⟨w.heap.size + 1 + 1 + 1, 1, none⟩ = some (.int .u64 r1) ∧ W.cell? ⟨w.heap.size + 1 + 1 + 1, 2, none⟩ = some (.int .u64 r2) ∧ W.cell? ⟨w.heap.size + 1 + 1 + 1, 3, none⟩ = some (.int .u64 r3) ∧ W.cell? ⟨w.heap.size + 1 + 1 + 1, 4, none⟩ = some (.int .u64 r4) ∧ W.frozen? ⟨w.heap.size + 1 + 1, 0, none⟩ = false ∧ W.frozen? ⟨w.heap.size + 1 + 1, 1, none⟩ = false ∧ W.frozen? ⟨w.heap.size + 1 + 1, 2, none⟩ = false ∧ W.frozen? ⟨w.heap.size + 1 + 1, 3, none⟩ = false ∧ W.frozen? ⟨w.heap.size + 1 + 1, 4, none⟩ = false ∧ W.frozen? ⟨w.heap.size + 1 + 1, 5, none⟩ = false ∧ W.frozen? ⟨w.heap.size + 1 + 1 + 1, 0, none⟩ = false ∧ W.frozen? ⟨w.heap.size + 1 + 1 + 1, 1, none⟩ = false ∧ W.frozen? ⟨w.heap.size + 1 + 1 + 1, 2, none⟩ = false ∧ W.frozen? ⟨w.heap.size + 1 + 1 + 1, 3, none⟩ = false ∧ W.frozen? ⟨w.heap.size + 1 + 1 + 1, 4, none⟩ = false := by
  obtain ⟨-, h0, h1, h2, h3⟩ := h
  refine ⟨?_, ?_, ?_, ?_, ?_, ?_, ?_, ?_, ?_, ?_, ?_, ?_, ?_, ?_, ?_, ?_, ?_, ?_, ?_, ?_, ?_, ?_, ?_, ?_, ?_, ?_, ?_, ?_, ?_, ?_, ?_, ?_, ?_, ?_⟩
  · exact (blk_cell h0 _).trans rfl
  · exact (blk_cell h0 _).trans rfl
  · exact (blk_cell h0 _).trans rfl
  · exact (blk_cell h0 _).trans rfl
  · exact (blk_cell h0 _).trans rfl
  · exact (blk_cell h0 _).trans rfl
  · exact (blk_cell h1 _).trans rfl
  · exact (blk_cell h1 _).trans rfl
  · exact (blk_cell h1 _).trans rfl
  · exact (blk_cell h1 _).trans rfl
  · exact (blk_cell h1 _).trans rfl
  · exact (blk_cell h1 _).trans rfl
  · exact (blk_cell h2 _).trans rfl
  · exact (blk_cell h2 _).trans rfl
  · exact (blk_cell h2 _).trans rfl
  · exact (blk_cell h2 _).trans rfl
  · exact (blk_cell h2 _).trans rfl
  · exact (blk_cell h2 _).trans rfl
  · exact (blk_cell h3 _).trans rfl
  · exact (blk_cell h3 _).trans rfl
  · exact (blk_cell h3 _).trans rfl
  · exact (blk_cell h3 _).trans rfl
  · exact (blk_cell h3 _).trans rfl
  · simp [World.frozen?, h2]
  · simp [World.frozen?, h2]
  · simp [World.frozen?, h2]
  · simp [World.frozen?, h2]
  · simp [World.frozen?, h2]
  · simp [World.frozen?, h2]
  · simp [World.frozen?, h3]
  · simp [World.frozen?, h3]
  · simp [World.frozen?, h3]
  · simp [World.frozen?, h3]
  · simp [World.frozen?, h3]
set_option maxRecDepth 100000 in
set_option maxHeartbeats 2000000 in
theorem times_walk (s z : Bool) (a0 a1 b0 b1 p00 q00 h00 p01 q01 h01 x2 y2 r2 c2 p10 q10 h10 x4 y4 r4 c4 p11 q11 h11 x5 y5 r5 c5 : Int) (w : World) (la0 : 0 ≤ a0) (ua0 : a0 < 4294967296) (la1 : 0 ≤ a1) (ua1 : a1 < 4294967296) (lb0 : 0 ≤ b0) (ub0 : b0 < 4294967296) (lb1 : 0 ≤ b1) (ub1 : b1 < 4294967296) (ep00 : a0 * b0 = p00) (lp00 : 0 ≤ p00) (up00 : p00 < 18446744073709551616) (eq00 : p00 / 4294967296 = q00) (eh00 : p00 % 4294967296 = h00) (lq00 : 0 ≤ q00) (uq00 : q00 < 4294967296) (lh00 : 0 ≤ h00) (uh00 : h00 < 4294967296) (em_h00 : h00 % 4294967296 = h00) (ed_h00 : h00 / 4294967296 = 0) (ep01 : a0 * b1 = p01) (lp01 : 0 ≤ p01) (up01 : p01 < 18446744073709551616) (eq01 : p01 / 4294967296 = q01) (eh01 : p01 % 4294967296 = h01) (lq01 : 0 ≤ q01) (uq01 : q01 < 4294967296) (lh01 : 0 ≤ h01) (uh01 : h01 < 4294967296) (ex2 : h01 + q00 = x2) (lx2 : 0 ≤ x2) (ux2 : x2 < 18446744073709551616) (ey2 : x2 / 4294967296 = y2) (er2 : x2 % 4294967296 = r2) (ly2 : 0 ≤ y2) (uy2 : y2 < 4294967296) (lr2 : 0 ≤ r2) (ur2 : r2 < 4294967296) (ec2 : q01 + y2 = c2) (lc2 : 0 ≤ c2) (uc2 : c2 < 4294967296) (em_c2 : c2 % 4294967296 = c2) (ed_c2 : c2 / 4294967296 = 0) (ep10 : a1 * b0 = p10) (lp10 : 0 ≤ p10) (up10 : p10 < 18446744073709551616) (eq10 : p10 / 4294967296 = q10) (eh10 : p10 % 4294967296 = h10) (lq10 : 0 ≤ q10) (uq10 : q10 < 4294967296) (lh10 : 0 ≤ h10) (uh10 : h10 < 4294967296) (ex4 : r2 + h10 = x4) (lx4 : 0 ≤ x4) (ux4 : x4 < 18446744073709551616) (ey4 : x4 / 4294967296 = y4) (er4 : x4 % 4294967296 = r4) (ly4 : 0 ≤ y4) (uy4 : y4 < 4294967296) (lr4 : 0 ≤ r4) (ur4 : r4 < 4294967296) (ec4 : q10 + y4 = c4) (lc4 : 0 ≤ c4) (uc4 : c4 < 4294967296) (ep11 : a1 * b1 = p11) (lp11 : 0 ≤ p11) (up11 : p11 < 18446744073709551616) (eq11 : p11 / 4294967296 = q11) (eh11 : p11 % 4294967296 = h11) (lq11 : 0 ≤ q11) (uq11 : q11 < 4294967296) (lh11 : 0 ≤ h11) (uh11 : h11 < 4294967296) (ex5 : c2 + h11 + c4 = x5) (lx5 : 0 ≤ x5) (ux5 : x5 < 18446744073709551616) (ey5 : x5 / 4294967296 = y5) (er5 : x5 % 4294967296 = r5) (ly5 : 0 ≤ y5) (uy5 : y5 < 4294967296) (lr5 : 0 ≤ r5) (ur5 : r5 < 4294967296) (ec5 : q11 + y5 = c5) (lc5 : 0 ≤ c5) (uc5 : c5 < 4294967296) (em_c5 : c5 % 4294967296 = c5) (ed_c5 : c5 / 4294967296 = 0) (em_r5 : r5 % 4294967296 = r5) (ed_r5 : r5 / 4294967296 = 0) :
    Calls Tryd.prog 67 #[.agg #[.bool s, .int .u64 a0, .int .u64 a1, .int .u64 0, .int .u64 0, .int .u64 0], .agg #[.bool z, .int .u64 b0, .int .u64 b1, .int .u64 0, .int .u64 0, .int .u64 0]] w fun e w' => e = .returned (.agg #[.bool (s != z), .int .u64 h00, .int .u64 r4, .int .u64 r5, .int .u64 c5, .int .u64 0]) ∧ Below w.heap.size w w' := by
  have R00 := Aside0.mk (And.intro la0 (And.intro ua0 (And.intro lb0 (And.intro ub0 (And.intro ep00 (And.intro lp00 (And.intro up00 (And.intro eq00 (And.intro eh00 (And.intro lq00 (And.intro uq00 (And.intro lh00 (And.intro uh00 (And.intro em_h00 (ed_h00)))))))))))))))
  have R01 := Aside0.mk (And.intro la0 (And.intro ua0 (And.intro lb1 (And.intro ub1 (And.intro ep01 (And.intro lp01 (And.intro up01 (And.intro eq01 (And.intro eh01 (And.intro lq01 (And.intro uq01 (And.intro lh01 (And.intro uh01 (And.intro lq00 (And.intro uq00 (And.intro ex2 (And.intro lx2 (And.intro ux2 (And.intro ey2 (And.intro er2 (And.intro ly2 (And.intro uy2 (And.intro lr2 (And.intro ur2 (And.intro ec2 (And.intro lc2 (uc2)))))))))))))))))))))))))))
  have R02 := Aside0.mk (And.intro lc2 (And.intro uc2 (And.intro em_c2 (ed_c2))))
  have R10 := Aside0.mk (And.intro la1 (And.intro ua1 (And.intro lb0 (And.intro ub0 (And.intro ep10 (And.intro lp10 (And.intro up10 (And.intro eq10 (And.intro eh10 (And.intro lq10 (And.intro uq10 (And.intro lh10 (And.intro uh10 (And.intro lr2 (And.intro ur2 (And.intro ex4 (And.intro lx4 (And.intro ux4 (And.intro ey4 (And.intro er4 (And.intro ly4 (And.intro uy4 (And.intro lr4 (And.intro ur4 (And.intro ec4 (And.intro lc4 (uc4)))))))))))))))))))))))))))
  have R11 := Aside0.mk (And.intro la1 (And.intro ua1 (And.intro lb1 (And.intro ub1 (And.intro ep11 (And.intro lp11 (And.intro up11 (And.intro eq11 (And.intro eh11 (And.intro lq11 (And.intro uq11 (And.intro lh11 (And.intro uh11 (And.intro lc2 (And.intro uc2 (And.intro lc4 (And.intro uc4 (And.intro ex5 (And.intro lx5 (And.intro ux5 (And.intro ey5 (And.intro er5 (And.intro ly5 (And.intro uy5 (And.intro lr5 (And.intro ur5 (And.intro ec5 (And.intro lc5 (uc5)))))))))))))))))))))))))))))
  have R12 := Aside0.mk (And.intro lc5 (And.intro uc5 (And.intro em_c5 (ed_c5))))
  have R20 := Aside0.mk (And.intro lr5 (And.intro ur5 (And.intro em_r5 (ed_r5))))
  have R21 := Aside0.mk (And.intro lc5 (And.intro uc5 (And.intro em_c5 (ed_c5))))
  have R30 := Aside0.mk (And.intro lc5 (And.intro uc5 (And.intro em_c5 (ed_c5))))
  clear la0 ua0 lb0 ub0 ep00 lp00 up00 eq00 eh00 lq00 uq00 lh00 uh00 em_h00 ed_h00 lb1 ub1 ep01 lp01 up01 eq01 eh01 lq01 uq01 lh01 uh01 ex2 lx2 ux2 ey2 er2 ly2 uy2 lr2 ur2 ec2 lc2 uc2 em_c2 ed_c2 la1 ua1 ep10 lp10 up10 eq10 eh10 lq10 uq10 lh10 uh10 ex4 lx4 ux4 ey4 er4 ly4 uy4 lr4 ur4 ec4 lc4 uc4 ep11 lp11 up11 eq11 eh11 lq11 uq11 lh11 uh11 ex5 lx5 ux5 ey5 er5 ly5 uy5 lr5 ur5 ec5 lc5 uc5 em_c5 ed_c5 em_r5 ed_r5
  go_enter Tryd.func67, Tryd.ntmps67
  go_wp2_with fail
  refine wp_loop_rounds 6 ?_
  refine cutw (St w s z a0 a1 b0 b1 0 0 0 0 0) ?_ ?_
  · with_reducible exact St.start w s z a0 a1 b0 b1
  intro W h
  obtain ⟨k0, k1, k2, k3, k4, k5, k6, k7, k8, k9, k10, k11, k12, k13, k14, k15, k16, k17, k18, k19, k20, k21, k22, k23, k24, k25, k26, k27, k28, k29, k30, k31, k32, k33⟩ := h.facts
  replace h := Aside0.mk h
  rw [rounds_succ]
  go_wp2_with fail
  refine wp_loop_rounds 6 ?_
  obtain ⟨la0, ua0, lb0, ub0, ep00, lp00, up00, eq00, eh00, lq00, uq00, lh00, uh00, em_h00, ed_h00⟩ := R00.out
  rw [rounds_succ]
  go_wp2_with fail
  go_quiet (fail)
  go_wp2_with fail
  go_quiet (fail)
  go_wp2_with fail
  clear la0 ua0 lb0 ub0 ep00 lp00 up00 eq00 eh00 lq00 uq00 lh00 uh00 em_h00 ed_h00
  refine cutw (St w s z a0 a1 b0 b1 h00 0 0 0 0) ?_ ?_
  · repeat (first | with_reducible exact h.out | with_reducible refine St.drew ?_ _ | with_reducible exact St.set0 (St.drew (St.drew h.out _) _) _ | with_reducible exact St.set0 (St.drew h.out _) _ | with_reducible exact St.set0 h.out _)
  clear k0 k1 k2 k3 k4 k5 k6 k7 k8 k9 k10 k11 k12 k13 k14 k15 k16 k17 k18 k19 k20 k21 k22 k23 k24 k25 k26 k27 k28 k29 k30 k31 k32 k33 h
  clear W
  intro W h
  obtain ⟨k0, k1, k2, k3, k4, k5, k6, k7, k8, k9, k10, k11, k12, k13, k14, k15, k16, k17, k18, k19, k20, k21, k22, k23, k24, k25, k26, k27, k28, k29, k30, k31, k32, k33⟩ := h.facts
  replace h := Aside0.mk h
  obtain ⟨la0, ua0, lb1, ub1, ep01, lp01, up01, eq01, eh01, lq01, uq01, lh01, uh01, lq00, uq00, ex2, lx2, ux2, ey2, er2, ly2, uy2, lr2, ur2, ec2, lc2, uc2⟩ := R01.out
  rw [rounds_succ]
  go_wp2_with fail
  go_quiet (fail)
  go_wp2_with fail
  go_quiet (fail)
  go_wp2_with fail
  clear la0 ua0 lb1 ub1 ep01 lp01 up01 eq01 eh01 lq01 uq01 lh01 uh01 lq00 uq00 ex2 lx2 ux2 ey2 er2 ly2 uy2 lr2 ur2 ec2 lc2 uc2
  refine cutw (St w s z a0 a1 b0 b1 h00 r2 0 0 0) ?_ ?_
  · repeat (first | with_reducible exact h.out | with_reducible refine St.drew ?_ _ | with_reducible exact St.set1 (St.drew (St.drew h.out _) _) _ | with_reducible exact St.set1 (St.drew h.out _) _ | with_reducible exact St.set1 h.out _)
  clear k0 k1 k2 k3 k4 k5 k6 k7 k8 k9 k10 k11 k12 k13 k14 k15 k16 k17 k18 k19 k20 k21 k22 k23 k24 k25 k26 k27 k28 k29 k30 k31 k32 k33 h
  clear W
  intro W h
  obtain ⟨k0, k1, k2, k3, k4, k5, k6, k7, k8, k9, k10, k11, k12, k13, k14, k15, k16, k17, k18, k19, k20, k21, k22, k23, k24, k25, k26, k27, k28, k29, k30, k31, k32, k33⟩ := h.facts
  replace h := Aside0.mk h
  obtain ⟨lc2, uc2, em_c2, ed_c2⟩ := R02.out
  rw [rounds_succ]
  go_wp2_with fail
  go_quiet (fail)
  go_wp2_with fail
  go_quiet (fail)
  go_wp2_with fail
  clear lc2 uc2 em_c2 ed_c2
  refine cutw (St w s z a0 a1 b0 b1 h00 r2 c2 0 0) ?_ ?_
  · repeat (first | with_reducible exact h.out | with_reducible refine St.drew ?_ _ | with_reducible exact St.set2 (St.drew (St.drew h.out _) _) _ | with_reducible exact St.set2 (St.drew h.out _) _ | with_reducible exact St.set2 h.out _)
  clear k0 k1 k2 k3 k4 k5 k6 k7 k8 k9 k10 k11 k12 k13 k14 k15 k16 k17 k18 k19 k20 k21 k22 k23 k24 k25 k26 k27 k28 k29 k30 k31 k32 k33 h
  clear W
  intro W h
  obtain ⟨k0, k1, k2, k3, k4, k5, k6, k7, k8, k9, k10, k11, k12, k13, k14, k15, k16, k17, k18, k19, k20, k21, k22, k23, k24, k25, k26, k27, k28, k29, k30, k31, k32, k33⟩ := h.facts
  replace h := Aside0.mk h
  rw [rounds_succ]
  go_wp2_with fail
  go_quiet (fail)
  go_wp2_with fail
  go_quiet (fail)
  go_wp2_with fail
  refine cutw (St w s z a0 a1 b0 b1 h00 r2 c2 0 0) ?_ ?_
  · repeat (first | with_reducible exact h.out | with_reducible refine St.drew ?_ _ | with_reducible exact St.set3 (St.drew (St.drew h.out _) _) _ | with_reducible exact St.set3 (St.drew h.out _) _ | with_reducible exact St.set3 h.out _)
  clear k0 k1 k2 k3 k4 k5 k6 k7 k8 k9 k10 k11 k12 k13 k14 k15 k16 k17 k18 k19 k20 k21 k22 k23 k24 k25 k26 k27 k28 k29 k30 k31 k32 k33 h
  clear W
  intro W h
  obtain ⟨k0, k1, k2, k3, k4, k5, k6, k7, k8, k9, k10, k11, k12, k13, k14, k15, k16, k17, k18, k19, k20, k21, k22, k23, k24, k25, k26, k27, k28, k29, k30, k31, k32, k33⟩ := h.facts
  replace h := Aside0.mk h
  rw [rounds_succ]
  go_wp2_with fail
  go_quiet (fail)
  go_wp2_with fail
  go_quiet (fail)
  go_wp2_with fail
  refine cutw (St w s z a0 a1 b0 b1 h00 r2 c2 0 0) ?_ ?_
  · repeat (first | with_reducible exact h.out | with_reducible refine St.drew ?_ _ | with_reducible exact St.set4 (St.drew (St.drew h.out _) _) _ | with_reducible exact St.set4 (St.drew h.out _) _ | with_reducible exact St.set4 h.out _)
  clear k0 k1 k2 k3 k4 k5 k6 k7 k8 k9 k10 k11 k12 k13 k14 k15 k16 k17 k18 k19 k20 k21 k22 k23 k24 k25 k26 k27 k28 k29 k30 k31 k32 k33 h
  clear W
  intro W h
  obtain ⟨k0, k1, k2, k3, k4, k5, k6, k7, k8, k9, k10, k11, k12, k13, k14, k15, k16, k17, k18, k19, k20, k21, k22, k23, k24, k25, k26, k27, k28, k29, k30, k31, k32, k33⟩ := h.facts
  replace h := Aside0.mk h
  rw [rounds_succ]
  go_wp2_with fail
  rw [rounds_succ]
  go_wp2_with fail
  refine wp_loop_rounds 6 ?_
  obtain ⟨la1, ua1, lb0, ub0, ep10, lp10, up10, eq10, eh10, lq10, uq10, lh10, uh10, lr2, ur2, ex4, lx4, ux4, ey4, er4, ly4, uy4, lr4, ur4, ec4, lc4, uc4⟩ := R10.out
  rw [rounds_succ]
  go_wp2_with fail
  go_quiet (fail)
  go_wp2_with fail
  go_quiet (fail)
  go_wp2_with fail
  clear la1 ua1 lb0 ub0 ep10 lp10 up10 eq10 eh10 lq10 uq10 lh10 uh10 lr2 ur2 ex4 lx4 ux4 ey4 er4 ly4 uy4 lr4 ur4 ec4 lc4 uc4
  refine cutw (St w s z a0 a1 b0 b1 h00 r4 c2 0 0) ?_ ?_
  · repeat (first | with_reducible exact h.out | with_reducible refine St.drew ?_ _ | with_reducible exact St.set1 (St.drew (St.drew h.out _) _) _ | with_reducible exact St.set1 (St.drew h.out _) _ | with_reducible exact St.set1 h.out _)
  clear k0 k1 k2 k3 k4 k5 k6 k7 k8 k9 k10 k11 k12 k13 k14 k15 k16 k17 k18 k19 k20 k21 k22 k23 k24 k25 k26 k27 k28 k29 k30 k31 k32 k33 h
  clear W
  intro W h
  obtain ⟨k0, k1, k2, k3, k4, k5, k6, k7, k8, k9, k10, k11, k12, k13, k14, k15, k16, k17, k18, k19, k20, k21, k22, k23, k24, k25, k26, k27, k28, k29, k30, k31, k32, k33⟩ := h.facts
  replace h := Aside0.mk h
  obtain ⟨la1, ua1, lb1, ub1, ep11, lp11, up11, eq11, eh11, lq11, uq11, lh11, uh11, lc2, uc2, lc4, uc4, ex5, lx5, ux5, ey5, er5, ly5, uy5, lr5, ur5, ec5, lc5, uc5⟩ := R11.out
  rw [rounds_succ]
  go_wp2_with fail
  go_quiet (fail)
  go_wp2_with fail
  go_quiet (fail)
  go_wp2_with fail
  clear la1 ua1 lb1 ub1 ep11 lp11 up11 eq11 eh11 lq11 uq11 lh11 uh11 lc2 uc2 lc4 uc4 ex5 lx5 ux5 ey5 er5 ly5 uy5 lr5 ur5 ec5 lc5 uc5
  refine cutw (St w s z a0 a1 b0 b1 h00 r4 r5 0 0) ?_ ?_
  · repeat (first | with_reducible exact h.out | with_reducible refine St.drew ?_ _ | with_reducible exact St.set2 (St.drew (St.drew h.out _) _) _ | with_reducible exact St.set2 (St.drew h.out _) _ | with_reducible exact St.set2 h.out _)
  clear k0 k1 k2 k3 k4 k5 k6 k7 k8 k9 k10 k11 k12 k13 k14 k15 k16 k17 k18 k19 k20 k21 k22 k23 k24 k25 k26 k27 k28 k29 k30 k31 k32 k33 h
  clear W
  intro W h
  obtain ⟨k0, k1, k2, k3, k4, k5, k6, k7, k8, k9, k10, k11, k12, k13, k14, k15, k16, k17, k18, k19, k20, k21, k22, k23, k24, k25, k26, k27, k28, k29, k30, k31, k32, k33⟩ := h.facts
  replace h := Aside0.mk h
  obtain ⟨lc5, uc5, em_c5, ed_c5⟩ := R12.out
  rw [rounds_succ]
  go_wp2_with fail
  go_quiet (fail)
  go_wp2_with fail
  go_quiet (fail)
  go_wp2_with fail
  clear lc5 uc5 em_c5 ed_c5
  refine cutw (St w s z a0 a1 b0 b1 h00 r4 r5 c5 0) ?_ ?_
  · repeat (first | with_reducible exact h.out | with_reducible refine St.drew ?_ _ | with_reducible exact St.set3 (St.drew (St.drew h.out _) _) _ | with_reducible exact St.set3 (St.drew h.out _) _ | with_reducible exact St.set3 h.out _)
  clear k0 k1 k2 k3 k4 k5 k6 k7 k8 k9 k10 k11 k12 k13 k14 k15 k16 k17 k18 k19 k20 k21 k22 k23 k24 k25 k26 k27 k28 k29 k30 k31 k32 k33 h
  clear W
  intro W h
  obtain ⟨k0, k1, k2, k3, k4, k5, k6, k7, k8, k9, k10, k11, k12, k13, k14, k15, k16, k17, k18, k19, k20, k21, k22, k23, k24, k25, k26, k27, k28, k29, k30, k31, k32, k33⟩ := h.facts
  replace h := Aside0.mk h
  rw [rounds_succ]
  go_wp2_with fail
  go_quiet (fail)
  go_wp2_with fail
  go_quiet (fail)
  go_wp2_with fail
  refine cutw (St w s z a0 a1 b0 b1 h00 r4 r5 c5 0) ?_ ?_
  · repeat (first | with_reducible exact h.out | with_reducible refine St.drew ?_ _ | with_reducible exact St.set4 (St.drew (St.drew h.out _) _) _ | with_reducible exact St.set4 (St.drew h.out _) _ | with_reducible exact St.set4 h.out _)
  clear k0 k1 k2 k3 k4 k5 k6 k7 k8 k9 k10 k11 k12 k13 k14 k15 k16 k17 k18 k19 k20 k21 k22 k23 k24 k25 k26 k27 k28 k29 k30 k31 k32 k33 h
  clear W
  intro W h
  obtain ⟨k0, k1, k2, k3, k4, k5, k6, k7, k8, k9, k10, k11, k12, k13, k14, k15, k16, k17, k18, k19, k20, k21, k22, k23, k24, k25, k26, k27, k28, k29, k30, k31, k32, k33⟩ := h.facts
  replace h := Aside0.mk h
  rw [rounds_succ]
  go_wp2_with fail
  rw [rounds_succ]
  go_wp2_with fail
  refine wp_loop_rounds 6 ?_
  obtain ⟨lr5, ur5, em_r5, ed_r5⟩ := R20.out
  rw [rounds_succ]
  go_wp2_with fail
  go_quiet (fail)
  go_wp2_with fail
  go_quiet (fail)
  go_wp2_with fail
  clear lr5 ur5 em_r5 ed_r5
  refine cutw (St w s z a0 a1 b0 b1 h00 r4 r5 c5 0) ?_ ?_
  · repeat (first | with_reducible exact h.out | with_reducible refine St.drew ?_ _ | with_reducible exact St.set2 (St.drew (St.drew h.out _) _) _ | with_reducible exact St.set2 (St.drew h.out _) _ | with_reducible exact St.set2 h.out _)
  clear k0 k1 k2 k3 k4 k5 k6 k7 k8 k9 k10 k11 k12 k13 k14 k15 k16 k17 k18 k19 k20 k21 k22 k23 k24 k25 k26 k27 k28 k29 k30 k31 k32 k33 h
  clear W
  intro W h
  obtain ⟨k0, k1, k2, k3, k4, k5, k6, k7, k8, k9, k10, k11, k12, k13, k14, k15, k16, k17, k18, k19, k20, k21, k22, k23, k24, k25, k26, k27, k28, k29, k30, k31, k32, k33⟩ := h.facts
  replace h := Aside0.mk h
  obtain ⟨lc5, uc5, em_c5, ed_c5⟩ := R21.out
  rw [rounds_succ]
  go_wp2_with fail
  go_quiet (fail)
  go_wp2_with fail
  go_quiet (fail)
  go_wp2_with fail
  clear lc5 uc5 em_c5 ed_c5
  refine cutw (St w s z a0 a1 b0 b1 h00 r4 r5 c5 0) ?_ ?_
  · repeat (first | with_reducible exact h.out | with_reducible refine St.drew ?_ _ | with_reducible exact St.set3 (St.drew (St.drew h.out _) _) _ | with_reducible exact St.set3 (St.drew h.out _) _ | with_reducible exact St.set3 h.out _)
  clear k0 k1 k2 k3 k4 k5 k6 k7 k8 k9 k10 k11 k12 k13 k14 k15 k16 k17 k18 k19 k20 k21 k22 k23 k24 k25 k26 k27 k28 k29 k30 k31 k32 k33 h
  clear W
  intro W h
  obtain ⟨k0, k1, k2, k3, k4, k5, k6, k7, k8, k9, k10, k11, k12, k13, k14, k15, k16, k17, k18, k19, k20, k21, k22, k23, k24, k25, k26, k27, k28, k29, k30, k31, k32, k33⟩ := h.facts
  replace h := Aside0.mk h
  rw [rounds_succ]
  go_wp2_with fail
  go_quiet (fail)
  go_wp2_with fail
  go_quiet (fail)
  go_wp2_with fail
  refine cutw (St w s z a0 a1 b0 b1 h00 r4 r5 c5 0) ?_ ?_
  · repeat (first | with_reducible exact h.out | with_reducible refine St.drew ?_ _ | with_reducible exact St.set4 (St.drew (St.drew h.out _) _) _ | with_reducible exact St.set4 (St.drew h.out _) _ | with_reducible exact St.set4 h.out _)
  clear k0 k1 k2 k3 k4 k5 k6 k7 k8 k9 k10 k11 k12 k13 k14 k15 k16 k17 k18 k19 k20 k21 k22 k23 k24 k25 k26 k27 k28 k29 k30 k31 k32 k33 h
  clear W
  intro W h
  obtain ⟨k0, k1, k2, k3, k4, k5, k6, k7, k8, k9, k10, k11, k12, k13, k14, k15, k16, k17, k18, k19, k20, k21, k22, k23, k24, k25, k26, k27, k28, k29, k30, k31, k32, k33⟩ := h.facts
  replace h := Aside0.mk h
  rw [rounds_succ]
  go_wp2_with fail
  rw [rounds_succ]
  go_wp2_with fail
  refine wp_loop_rounds 6 ?_
  obtain ⟨lc5, uc5, em_c5, ed_c5⟩ := R30.out
  rw [rounds_succ]
  go_wp2_with fail
  go_quiet (fail)
  go_wp2_with fail
  go_quiet (fail)
  go_wp2_with fail
  clear lc5 uc5 em_c5 ed_c5
  refine cutw (St w s z a0 a1 b0 b1 h00 r4 r5 c5 0) ?_ ?_
  · repeat (first | with_reducible exact h.out | with_reducible refine St.drew ?_ _ | with_reducible exact St.set3 (St.drew (St.drew h.out _) _) _ | with_reducible exact St.set3 (St.drew h.out _) _ | with_reducible exact St.set3 h.out _)
  clear k0 k1 k2 k3 k4 k5 k6 k7 k8 k9 k10 k11 k12 k13 k14 k15 k16 k17 k18 k19 k20 k21 k22 k23 k24 k25 k26 k27 k28 k29 k30 k31 k32 k33 h
  clear W
  intro W h
  obtain ⟨k0, k1, k2, k3, k4, k5, k6, k7, k8, k9, k10, k11, k12, k13, k14, k15, k16, k17, k18, k19, k20, k21, k22, k23, k24, k25, k26, k27, k28, k29, k30, k31, k32, k33⟩ := h.facts
  replace h := Aside0.mk h
  rw [rounds_succ]
  go_wp2_with fail
  go_quiet (fail)
  go_wp2_with fail
  go_quiet (fail)
  go_wp2_with fail
  refine cutw (St w s z a0 a1 b0 b1 h00 r4 r5 c5 0) ?_ ?_
  · repeat (first | with_reducible exact h.out | with_reducible refine St.drew ?_ _ | with_reducible exact St.set4 (St.drew (St.drew h.out _) _) _ | with_reducible exact St.set4 (St.drew h.out _) _ | with_reducible exact St.set4 h.out _)
  clear k0 k1 k2 k3 k4 k5 k6 k7 k8 k9 k10 k11 k12 k13 k14 k15 k16 k17 k18 k19 k20 k21 k22 k23 k24 k25 k26 k27 k28 k29 k30 k31 k32 k33 h
  clear W
  intro W h
  obtain ⟨k0, k1, k2, k3, k4, k5, k6, k7, k8, k9, k10, k11, k12, k13, k14, k15, k16, k17, k18, k19, k20, k21, k22, k23, k24, k25, k26, k27, k28, k29, k30, k31, k32, k33⟩ := h.facts
  replace h := Aside0.mk h
  rw [rounds_succ]
  go_wp2_with fail
  rw [rounds_succ]
  go_wp2_with fail
  refine wp_loop_rounds 6 ?_
  rw [rounds_succ]
  go_wp2_with fail
  go_quiet (fail)
  go_wp2_with fail
  go_quiet (fail)
  go_wp2_with fail
  refine cutw (St w s z a0 a1 b0 b1 h00 r4 r5 c5 0) ?_ ?_
  · repeat (first | with_reducible exact h.out | with_reducible refine St.drew ?_ _ | with_reducible exact St.set4 (St.drew (St.drew h.out _) _) _ | with_reducible exact St.set4 (St.drew h.out _) _ | with_reducible exact St.set4 h.out _)
  clear k0 k1 k2 k3 k4 k5 k6 k7 k8 k9 k10 k11 k12 k13 k14 k15 k16 k17 k18 k19 k20 k21 k22 k23 k24 k25 k26 k27 k28 k29 k30 k31 k32 k33 h
  clear W
  intro W h
  obtain ⟨k0, k1, k2, k3, k4, k5, k6, k7, k8, k9, k10, k11, k12, k13, k14, k15, k16, k17, k18, k19, k20, k21, k22, k23, k24, k25, k26, k27, k28, k29, k30, k31, k32, k33⟩ := h.facts
  replace h := Aside0.mk h
  rw [rounds_succ]
  go_wp2_with fail
  rw [rounds_succ]
  go_wp2_with fail
  simp [bodyPost, results, Tryd.results67, go_sem, k12, k13, k14, k15, k16, k17, k23, k24, k25, k26, k27, k28]
  refine ⟨by cases s <;> cases z <;> rfl, ?_⟩
  refine set_ok (set_ok (set_ok (set_ok (set_ok (set_ok h.out.1 ?_ _) ?_ _) ?_ _) ?_ _) ?_ _) ?_ _ <;> omega
def chanceryref17_times.f (s : Bool) (a0 a1 a2 a3 a4 : Int) (z : Bool) (b0 b1 b2 b3 b4 : Int) : Option (Bool × Int × Int × Int × Int × Int) :=
  if Digs a0 a1 a2 a3 a4 ∧ Digs b0 b1 b2 b3 b4 ∧ (a2 = 0 ∧ a3 = 0 ∧ a4 = 0) ∧ b2 = 0 ∧ b3 = 0 ∧ b4 = 0 then some (s != z, d0 (num a0 a1 a2 a3 a4 * num b0 b1 b2 b3 b4), d1 (num a0 a1 a2 a3 a4 * num b0 b1 b2 b3 b4), d2 (num a0 a1 a2 a3 a4 * num b0 b1 b2 b3 b4), d3 (num a0 a1 a2 a3 a4 * num b0 b1 b2 b3 b4), d4 (num a0 a1 a2 a3 a4 * num b0 b1 b2 b3 b4)) else none
set_option maxRecDepth 100000 in
set_option maxHeartbeats 1000000 in
theorem chanceryref17_times.calls (s : Bool) (a0 a1 a2 a3 a4 : Int) (z : Bool) (b0 b1 b2 b3 b4 : Int) (g0 : Bool) (g1 g2 g3 g4 g5 : Int) (w : World) (h : chanceryref17_times.f s a0 a1 a2 a3 a4 z b0 b1 b2 b3 b4 = some (g0, g1, g2, g3, g4, g5)) :
    Calls Tryd.prog 67 #[.agg #[.bool s, .int .u64 a0, .int .u64 a1, .int .u64 a2, .int .u64 a3, .int .u64 a4], .agg #[.bool z, .int .u64 b0, .int .u64 b1, .int .u64 b2, .int .u64 b3, .int .u64 b4]] w fun e w' => e = .returned (.agg #[.bool g0, .int .u64 g1, .int .u64 g2, .int .u64 g3, .int .u64 g4, .int .u64 g5]) ∧ Below w.heap.size w w' := by
  unfold chanceryref17_times.f at h
  by_cases hc : Digs a0 a1 a2 a3 a4 ∧ Digs b0 b1 b2 b3 b4 ∧ (a2 = 0 ∧ a3 = 0 ∧ a4 = 0) ∧ b2 = 0 ∧ b3 = 0 ∧ b4 = 0
  case neg => rw [if_neg hc] at h; cases h
  rw [if_pos hc] at h
  injection h with h
  simp only [Prod.mk.injEq] at h
  obtain ⟨q0, q1, q2, q3, q4, q5⟩ := h
  obtain ⟨⟨⟨la0, ua0⟩, ⟨la1, ua1⟩, -⟩, ⟨⟨lb0, ub0⟩, ⟨lb1, ub1⟩, -⟩, ⟨rfl, rfl, rfl⟩, rfl, rfl, rfl⟩ := hc
  have pr (x y : Int) (h0 : 0 ≤ x) (h1 : x < 4294967296) (h2 : 0 ≤ y) (h3 : y < 4294967296) : 0 ≤ x * y ∧ x * y ≤ 18446744065119617025 := by
    refine ⟨Int.mul_nonneg h0 h2, ?_⟩
    calc x * y ≤ 4294967295 * y := Int.mul_le_mul_of_nonneg_right (by omega) h2
      _ ≤ 4294967295 * 4294967295 := Int.mul_le_mul_of_nonneg_left (by omega) (by decide)
      _ = 18446744065119617025 := by decide
  have hN : num a0 a1 0 0 0 * num b0 b1 0 0 0 = a0 * b0 + (a0 * b1 + a1 * b0) * 4294967296 + a1 * b1 * 18446744073709551616 := by
    simp only [num, Int.zero_mul, Int.add_zero]
    rw [Int.add_mul, Int.mul_add, Int.mul_add]
    have e1 : a0 * (b1 * 4294967296) = a0 * b1 * 4294967296 := (Int.mul_assoc _ _ _).symm
    have e2 : a1 * 4294967296 * b0 = a1 * b0 * 4294967296 := by rw [Int.mul_assoc, Int.mul_comm 4294967296, ← Int.mul_assoc]
    have e3 : a1 * 4294967296 * (b1 * 4294967296) = a1 * b1 * 18446744073709551616 := by
      rw [Int.mul_assoc, Int.mul_comm 4294967296, Int.mul_assoc, ← Int.mul_assoc a1]
      rfl
    rw [e1, e2, e3]
    omega
  obtain ⟨lp00, up00⟩ := pr a0 b0 la0 ua0 lb0 ub0
  obtain ⟨p00, ep00⟩ : ∃ p, a0 * b0 = p := ⟨_, rfl⟩
  rw [ep00] at lp00 up00 hN
  obtain ⟨lp01, up01⟩ := pr a0 b1 la0 ua0 lb1 ub1
  obtain ⟨p01, ep01⟩ : ∃ p, a0 * b1 = p := ⟨_, rfl⟩
  rw [ep01] at lp01 up01 hN
  obtain ⟨lp10, up10⟩ := pr a1 b0 la1 ua1 lb0 ub0
  obtain ⟨p10, ep10⟩ : ∃ p, a1 * b0 = p := ⟨_, rfl⟩
  rw [ep10] at lp10 up10 hN
  obtain ⟨lp11, up11⟩ := pr a1 b1 la1 ua1 lb1 ub1
  obtain ⟨p11, ep11⟩ : ∃ p, a1 * b1 = p := ⟨_, rfl⟩
  rw [ep11] at lp11 up11 hN
  rw [hN] at q1 q2 q3 q4 q5
  clear hN pr
  obtain ⟨q00, eq00⟩ : ∃ t, p00 / 4294967296 = t := ⟨_, rfl⟩
  obtain ⟨h00, eh00⟩ : ∃ t, p00 % 4294967296 = t := ⟨_, rfl⟩
  have lq00 : 0 ≤ q00 := by omega
  have uq00 : q00 < 4294967296 := by omega
  have lh00 : 0 ≤ h00 := by omega
  have uh00 : h00 < 4294967296 := by omega
  have em_h00 : h00 % 4294967296 = h00 := by omega
  have ed_h00 : h00 / 4294967296 = 0 := by omega
  obtain ⟨q01, eq01⟩ : ∃ t, p01 / 4294967296 = t := ⟨_, rfl⟩
  obtain ⟨h01, eh01⟩ : ∃ t, p01 % 4294967296 = t := ⟨_, rfl⟩
  have lq01 : 0 ≤ q01 := by omega
  have uq01 : q01 < 4294967296 := by omega
  have lh01 : 0 ≤ h01 := by omega
  have uh01 : h01 < 4294967296 := by omega
  obtain ⟨x2, ex2⟩ : ∃ t, h01 + q00 = t := ⟨_, rfl⟩
  have lx2 : 0 ≤ x2 := by omega
  have ux2 : x2 < 18446744073709551616 := by omega
  obtain ⟨y2, ey2⟩ : ∃ t, x2 / 4294967296 = t := ⟨_, rfl⟩
  obtain ⟨r2, er2⟩ : ∃ t, x2 % 4294967296 = t := ⟨_, rfl⟩
  have ly2 : 0 ≤ y2 := by omega
  have uy2 : y2 < 4294967296 := by omega
  have lr2 : 0 ≤ r2 := by omega
  have ur2 : r2 < 4294967296 := by omega
  obtain ⟨c2, ec2⟩ : ∃ t, q01 + y2 = t := ⟨_, rfl⟩
  have lc2 : 0 ≤ c2 := by omega
  have uc2 : c2 < 4294967296 := by omega
  have em_c2 : c2 % 4294967296 = c2 := by omega
  have ed_c2 : c2 / 4294967296 = 0 := by omega
  obtain ⟨q10, eq10⟩ : ∃ t, p10 / 4294967296 = t := ⟨_, rfl⟩
  obtain ⟨h10, eh10⟩ : ∃ t, p10 % 4294967296 = t := ⟨_, rfl⟩
  have lq10 : 0 ≤ q10 := by omega
  have uq10 : q10 < 4294967296 := by omega
  have lh10 : 0 ≤ h10 := by omega
  have uh10 : h10 < 4294967296 := by omega
  obtain ⟨x4, ex4⟩ : ∃ t, r2 + h10 = t := ⟨_, rfl⟩
  have lx4 : 0 ≤ x4 := by omega
  have ux4 : x4 < 18446744073709551616 := by omega
  obtain ⟨y4, ey4⟩ : ∃ t, x4 / 4294967296 = t := ⟨_, rfl⟩
  obtain ⟨r4, er4⟩ : ∃ t, x4 % 4294967296 = t := ⟨_, rfl⟩
  have ly4 : 0 ≤ y4 := by omega
  have uy4 : y4 < 4294967296 := by omega
  have lr4 : 0 ≤ r4 := by omega
  have ur4 : r4 < 4294967296 := by omega
  obtain ⟨c4, ec4⟩ : ∃ t, q10 + y4 = t := ⟨_, rfl⟩
  have lc4 : 0 ≤ c4 := by omega
  have uc4 : c4 < 4294967296 := by omega
  obtain ⟨q11, eq11⟩ : ∃ t, p11 / 4294967296 = t := ⟨_, rfl⟩
  obtain ⟨h11, eh11⟩ : ∃ t, p11 % 4294967296 = t := ⟨_, rfl⟩
  have lq11 : 0 ≤ q11 := by omega
  have uq11 : q11 < 4294967296 := by omega
  have lh11 : 0 ≤ h11 := by omega
  have uh11 : h11 < 4294967296 := by omega
  obtain ⟨x5, ex5⟩ : ∃ t, c2 + h11 + c4 = t := ⟨_, rfl⟩
  have lx5 : 0 ≤ x5 := by omega
  have ux5 : x5 < 18446744073709551616 := by omega
  obtain ⟨y5, ey5⟩ : ∃ t, x5 / 4294967296 = t := ⟨_, rfl⟩
  obtain ⟨r5, er5⟩ : ∃ t, x5 % 4294967296 = t := ⟨_, rfl⟩
  have ly5 : 0 ≤ y5 := by omega
  have uy5 : y5 < 4294967296 := by omega
  have lr5 : 0 ≤ r5 := by omega
  have ur5 : r5 < 4294967296 := by omega
  obtain ⟨c5, ec5⟩ : ∃ t, q11 + y5 = t := ⟨_, rfl⟩
  have lc5 : 0 ≤ c5 := by omega
  have uc5 : c5 < 4294967296 := by omega
  have em_c5 : c5 % 4294967296 = c5 := by omega
  have ed_c5 : c5 / 4294967296 = 0 := by omega
  have em_r5 : r5 % 4294967296 = r5 := by omega
  have ed_r5 : r5 / 4294967296 = 0 := by omega
  have hf := five_eq (p00 + (p01 + p10) * 4294967296 + p11 * 18446744073709551616) h00 r4 r5 c5 0 0 (by omega) (by omega) (by omega) (by omega) (by omega) (by omega) (by omega) (by omega) (by omega) (by omega) (by simp only [num]; omega)
  obtain ⟨t0, t1, t2, t3, t4⟩ := hf
  rw [← t0] at q1; rw [← t1] at q2; rw [← t2] at q3; rw [← t3] at q4; rw [← t4] at q5
  subst q0 q1 q2 q3 q4 q5
  exact times_walk s z a0 a1 b0 b1 p00 q00 h00 p01 q01 h01 x2 y2 r2 c2 p10 q10 h10 x4 y4 r4 c4 p11 q11 h11 x5 y5 r5 c5 w la0 ua0 la1 ua1 lb0 ub0 lb1 ub1 ep00 lp00 (by omega) eq00 eh00 lq00 uq00 lh00 uh00 em_h00 ed_h00 ep01 lp01 (by omega) eq01 eh01 lq01 uq01 lh01 uh01 ex2 lx2 ux2 ey2 er2 ly2 uy2 lr2 ur2 ec2 lc2 uc2 em_c2 ed_c2 ep10 lp10 (by omega) eq10 eh10 lq10 uq10 lh10 uh10 ex4 lx4 ux4 ey4 er4 ly4 uy4 lr4 ur4 ec4 lc4 uc4 ep11 lp11 (by omega) eq11 eh11 lq11 uq11 lh11 uh11 ex5 lx5 ux5 ey5 er5 ly5 uy5 lr5 ur5 ec5 lc5 uc5 em_c5 ed_c5 em_r5 ed_r5
end Go.Proofs.YtbodlnoipkommaaDoor.Rd
namespace Go.Proofs.YtbodlnoipkommaaDoor.Rc
open Go.Proofs.YtbodlnoipkommaaDoor.Ra Go.Proofs.YtbodlnoipkommaaDoor.Rb
open Go.RowKit Go.Proofs.YtbodlnoipkommaaDoorW.PrintWords Go.Proofs.YtbodlnoipkommaaDoorW.PrintLast Go.Proofs.YtbodlnoipkommaaDoorW.PrintMore
set_option maxRecDepth 100000 in
set_option maxHeartbeats 1000000 in
theorem under_4 (a0 a1 a2 a3 a4 b0 b1 b2 b3 b4 : Int) (w : World) (hne : ¬ a4 = b4) :
    Calls Tryd.prog 75 #[.agg #[.int .u64 a0, .int .u64 a1, .int .u64 a2, .int .u64 a3, .int .u64 a4], .agg #[.int .u64 b0, .int .u64 b1, .int .u64 b2, .int .u64 b3, .int .u64 b4]] w fun e w' => e = .returned (.bool (decide (a4 < b4))) ∧ Below w.heap.size w w' := by
  go_enter Tryd.func75, Tryd.ntmps75
  go_wp2_with fail
  refine wp_loop_rounds 6 ?_
  rw [rounds_succ]
  go_wp2_with fail
  go_quiet (fail)
  go_wp2_with fail
  go_quiet (fail)
  go_wp2_with fail
  simp [bodyPost, results, Tryd.results75, go_sem]
  try refine ⟨by assumption, ?_⟩
  repeat' (first | with_reducible exact Below.refl _ _ | with_reducible refine drew_ok ?_ _ | with_reducible refine set_ok ?_ ?_ _ | with_reducible refine below_alloc ?_ _)
  all_goals first | omega | trace_state
set_option maxRecDepth 100000 in
set_option maxHeartbeats 1000000 in
theorem under_3 (a0 a1 a2 a3 a4 b0 b1 b2 b3 : Int) (w : World) (hne : ¬ a3 = b3) :
    Calls Tryd.prog 75 #[.agg #[.int .u64 a0, .int .u64 a1, .int .u64 a2, .int .u64 a3, .int .u64 a4], .agg #[.int .u64 b0, .int .u64 b1, .int .u64 b2, .int .u64 b3, .int .u64 a4]] w fun e w' => e = .returned (.bool (decide (a3 < b3))) ∧ Below w.heap.size w w' := by
  go_enter Tryd.func75, Tryd.ntmps75
  go_wp2_with fail
  refine wp_loop_rounds 6 ?_
  rw [rounds_succ]
  go_wp2_with fail
  go_quiet (fail)
  go_wp2_with fail
  rw [rounds_succ]
  go_wp2_with fail
  go_quiet (fail)
  go_wp2_with fail
  go_quiet (fail)
  go_wp2_with fail
  simp [bodyPost, results, Tryd.results75, go_sem]
  try refine ⟨by assumption, ?_⟩
  repeat' (first | with_reducible exact Below.refl _ _ | with_reducible refine drew_ok ?_ _ | with_reducible refine set_ok ?_ ?_ _ | with_reducible refine below_alloc ?_ _)
  all_goals first | omega | trace_state
set_option maxRecDepth 100000 in
set_option maxHeartbeats 1000000 in
theorem under_2 (a0 a1 a2 a3 a4 b0 b1 b2 : Int) (w : World) (hne : ¬ a2 = b2) :
    Calls Tryd.prog 75 #[.agg #[.int .u64 a0, .int .u64 a1, .int .u64 a2, .int .u64 a3, .int .u64 a4], .agg #[.int .u64 b0, .int .u64 b1, .int .u64 b2, .int .u64 a3, .int .u64 a4]] w fun e w' => e = .returned (.bool (decide (a2 < b2))) ∧ Below w.heap.size w w' := by
  go_enter Tryd.func75, Tryd.ntmps75
  go_wp2_with fail
  refine wp_loop_rounds 6 ?_
  rw [rounds_succ]
  go_wp2_with fail
  go_quiet (fail)
  go_wp2_with fail
  rw [rounds_succ]
  go_wp2_with fail
  go_quiet (fail)
  go_wp2_with fail
  rw [rounds_succ]
  go_wp2_with fail
  go_quiet (fail)
  go_wp2_with fail
  go_quiet (fail)
  go_wp2_with fail
  simp [bodyPost, results, Tryd.results75, go_sem]
  try refine ⟨by assumption, ?_⟩
  repeat' (first | with_reducible exact Below.refl _ _ | with_reducible refine drew_ok ?_ _ | with_reducible refine set_ok ?_ ?_ _ | with_reducible refine below_alloc ?_ _)
  all_goals first | omega | trace_state
set_option maxRecDepth 100000 in
set_option maxHeartbeats 1000000 in
theorem under_1 (a0 a1 a2 a3 a4 b0 b1 : Int) (w : World) (hne : ¬ a1 = b1) :
    Calls Tryd.prog 75 #[.agg #[.int .u64 a0, .int .u64 a1, .int .u64 a2, .int .u64 a3, .int .u64 a4], .agg #[.int .u64 b0, .int .u64 b1, .int .u64 a2, .int .u64 a3, .int .u64 a4]] w fun e w' => e = .returned (.bool (decide (a1 < b1))) ∧ Below w.heap.size w w' := by
  go_enter Tryd.func75, Tryd.ntmps75
  go_wp2_with fail
  refine wp_loop_rounds 6 ?_
  rw [rounds_succ]
  go_wp2_with fail
  go_quiet (fail)
  go_wp2_with fail
  rw [rounds_succ]
  go_wp2_with fail
  go_quiet (fail)
  go_wp2_with fail
  rw [rounds_succ]
  go_wp2_with fail
  go_quiet (fail)
  go_wp2_with fail
  rw [rounds_succ]
  go_wp2_with fail
  go_quiet (fail)
  go_wp2_with fail
  go_quiet (fail)
  go_wp2_with fail
  simp [bodyPost, results, Tryd.results75, go_sem]
  try refine ⟨by assumption, ?_⟩
  repeat' (first | with_reducible exact Below.refl _ _ | with_reducible refine drew_ok ?_ _ | with_reducible refine set_ok ?_ ?_ _ | with_reducible refine below_alloc ?_ _)
  all_goals first | omega | trace_state
set_option maxRecDepth 100000 in
set_option maxHeartbeats 1000000 in
theorem under_0 (a0 a1 a2 a3 a4 b0 : Int) (w : World) (hne : ¬ a0 = b0) :
    Calls Tryd.prog 75 #[.agg #[.int .u64 a0, .int .u64 a1, .int .u64 a2, .int .u64 a3, .int .u64 a4], .agg #[.int .u64 b0, .int .u64 a1, .int .u64 a2, .int .u64 a3, .int .u64 a4]] w fun e w' => e = .returned (.bool (decide (a0 < b0))) ∧ Below w.heap.size w w' := by
  go_enter Tryd.func75, Tryd.ntmps75
  go_wp2_with fail
  refine wp_loop_rounds 6 ?_
  rw [rounds_succ]
  go_wp2_with fail
  go_quiet (fail)
  go_wp2_with fail
  rw [rounds_succ]
  go_wp2_with fail
  go_quiet (fail)
  go_wp2_with fail
  rw [rounds_succ]
  go_wp2_with fail
  go_quiet (fail)
  go_wp2_with fail
  rw [rounds_succ]
  go_wp2_with fail
  go_quiet (fail)
  go_wp2_with fail
  rw [rounds_succ]
  go_wp2_with fail
  go_quiet (fail)
  go_wp2_with fail
  go_quiet (fail)
  go_wp2_with fail
  simp [bodyPost, results, Tryd.results75, go_sem]
  try refine ⟨by assumption, ?_⟩
  repeat' (first | with_reducible exact Below.refl _ _ | with_reducible refine drew_ok ?_ _ | with_reducible refine set_ok ?_ ?_ _ | with_reducible refine below_alloc ?_ _)
  all_goals first | omega | trace_state
set_option maxRecDepth 100000 in
set_option maxHeartbeats 1000000 in
theorem under_eq (a0 a1 a2 a3 a4 : Int) (w : World) :
    Calls Tryd.prog 75 #[.agg #[.int .u64 a0, .int .u64 a1, .int .u64 a2, .int .u64 a3, .int .u64 a4], .agg #[.int .u64 a0, .int .u64 a1, .int .u64 a2, .int .u64 a3, .int .u64 a4]] w fun e w' => e = .returned (.bool false) ∧ Below w.heap.size w w' := by
  go_enter Tryd.func75, Tryd.ntmps75
  go_wp2_with fail
  refine wp_loop_rounds 6 ?_
  rw [rounds_succ]
  go_wp2_with fail
  go_quiet (fail)
  go_wp2_with fail
  rw [rounds_succ]
  go_wp2_with fail
  go_quiet (fail)
  go_wp2_with fail
  rw [rounds_succ]
  go_wp2_with fail
  go_quiet (fail)
  go_wp2_with fail
  rw [rounds_succ]
  go_wp2_with fail
  go_quiet (fail)
  go_wp2_with fail
  rw [rounds_succ]
  go_wp2_with fail
  go_quiet (fail)
  go_wp2_with fail
  rw [rounds_succ]
  go_wp2_with fail
  simp [bodyPost, results, Tryd.results75, go_sem]
  try refine ⟨by assumption, ?_⟩
  repeat' (first | with_reducible exact Below.refl _ _ | with_reducible refine drew_ok ?_ _ | with_reducible refine set_ok ?_ ?_ _ | with_reducible refine below_alloc ?_ _)
  all_goals first | omega | trace_state
def chanceryref17_under.f (a0 a1 a2 a3 a4 b0 b1 b2 b3 b4 : Int) : Option Bool := if Digs a0 a1 a2 a3 a4 ∧ Digs b0 b1 b2 b3 b4 then some (decide (num a0 a1 a2 a3 a4 < num b0 b1 b2 b3 b4)) else none
set_option maxRecDepth 100000 in
set_option maxHeartbeats 1000000 in
theorem chanceryref17_under.calls (a0 a1 a2 a3 a4 b0 b1 b2 b3 b4 : Int) (r : Bool) (w : World) (h : chanceryref17_under.f a0 a1 a2 a3 a4 b0 b1 b2 b3 b4 = some r) :
    Calls Tryd.prog 75 #[.agg #[.int .u64 a0, .int .u64 a1, .int .u64 a2, .int .u64 a3, .int .u64 a4], .agg #[.int .u64 b0, .int .u64 b1, .int .u64 b2, .int .u64 b3, .int .u64 b4]] w fun e w' => e = .returned (.bool r) ∧ Below w.heap.size w w' := by
  unfold chanceryref17_under.f at h
  by_cases hc : Digs a0 a1 a2 a3 a4 ∧ Digs b0 b1 b2 b3 b4
  case neg => rw [if_neg hc] at h; cases h
  rw [if_pos hc] at h
  injection h with h
  obtain ⟨⟨⟨la0, ua0⟩, ⟨la1, ua1⟩, ⟨la2, ua2⟩, ⟨la3, ua3⟩, la4, ua4⟩, ⟨lb0, ub0⟩, ⟨lb1, ub1⟩, ⟨lb2, ub2⟩, ⟨lb3, ub3⟩, lb4, ub4⟩ := hc
  by_cases h4 : a4 = b4
  case neg =>
    have e : decide (num a0 a1 a2 a3 a4 < num b0 b1 b2 b3 b4) = decide (a4 < b4) := by
      refine decide_eq_decide.mpr ?_
      simp only [num]
      omega
    rw [e] at h
    subst h
    exact under_4 a0 a1 a2 a3 a4 b0 b1 b2 b3 b4 w h4
  by_cases h3 : a3 = b3
  case neg =>
    have e : decide (num a0 a1 a2 a3 a4 < num b0 b1 b2 b3 b4) = decide (a3 < b3) := by
      refine decide_eq_decide.mpr ?_
      simp only [num]
      omega
    rw [e] at h
    subst h
    subst h4
    exact under_3 a0 a1 a2 a3 a4 b0 b1 b2 b3 w h3
  by_cases h2 : a2 = b2
  case neg =>
    have e : decide (num a0 a1 a2 a3 a4 < num b0 b1 b2 b3 b4) = decide (a2 < b2) := by
      refine decide_eq_decide.mpr ?_
      simp only [num]
      omega
    rw [e] at h
    subst h
    subst h4
    subst h3
    exact under_2 a0 a1 a2 a3 a4 b0 b1 b2 w h2
  by_cases h1 : a1 = b1
  case neg =>
    have e : decide (num a0 a1 a2 a3 a4 < num b0 b1 b2 b3 b4) = decide (a1 < b1) := by
      refine decide_eq_decide.mpr ?_
      simp only [num]
      omega
    rw [e] at h
    subst h
    subst h4
    subst h3
    subst h2
    exact under_1 a0 a1 a2 a3 a4 b0 b1 w h1
  by_cases h0 : a0 = b0
  case neg =>
    have e : decide (num a0 a1 a2 a3 a4 < num b0 b1 b2 b3 b4) = decide (a0 < b0) := by
      refine decide_eq_decide.mpr ?_
      simp only [num]
      omega
    rw [e] at h
    subst h
    subst h4
    subst h3
    subst h2
    subst h1
    exact under_0 a0 a1 a2 a3 a4 b0 w h0
  subst h4
  subst h3
  subst h2
  subst h1
  subst h0
  rw [decide_eq_false (Int.lt_irrefl _)] at h
  subst h
  exact under_eq a0 a1 a2 a3 a4 w
set_option maxRecDepth 100000 in
set_option maxHeartbeats 1000000 in
theorem big_pos (n : Int) (w : World) (h0 : 0 ≤ n) (h1 : n < 9223372036854775808) :
    Calls Tryd.prog 66 #[.int .i64 n] w fun e w' => e = .returned (.agg #[.bool false, .int .u64 (n % 4294967296), .int .u64 (n / 4294967296), .int .u64 0, .int .u64 0, .int .u64 0]) ∧ Below w.heap.size w w' := by
  have e0 : ¬ (n < 0) := by omega
  have e1 : n / 4294967296 % 18446744073709551616 = n / 4294967296 := by omega
  go_enter Tryd.func66, Tryd.ntmps66
  go_wp2_with fail
  simp [bodyPost, results, Tryd.results66, go_sem]
  try refine ⟨by assumption, ?_⟩
  repeat' (first | with_reducible exact Below.refl _ _ | with_reducible refine drew_ok ?_ _ | with_reducible refine set_ok ?_ ?_ _ | with_reducible refine below_alloc ?_ _)
  all_goals first | omega | trace_state
set_option maxRecDepth 100000 in
set_option maxHeartbeats 1000000 in
theorem big_neg (n m : Int) (w : World) (h0 : n < 0) (h1 : -9223372036854775808 ≤ n) (hm : IntKind.u64.wrap (-(IntKind.u64.wrap n)) = m) (m0 : 0 ≤ m) (m1 : m < 18446744073709551616) :
    Calls Tryd.prog 66 #[.int .i64 n] w fun e w' => e = .returned (.agg #[.bool true, .int .u64 (m % 4294967296), .int .u64 (m / 4294967296), .int .u64 0, .int .u64 0, .int .u64 0]) ∧ Below w.heap.size w w' := by
  go_enter Tryd.func66, Tryd.ntmps66
  go_wp2_with fail
  simp [bodyPost, results, Tryd.results66, go_sem]
  try refine ⟨by assumption, ?_⟩
  repeat' (first | with_reducible exact Below.refl _ _ | with_reducible refine drew_ok ?_ _ | with_reducible refine set_ok ?_ ?_ _ | with_reducible refine below_alloc ?_ _)
  all_goals first | omega | trace_state
def chanceryref17_big.f (n : Int) : Option (Bool × Int × Int × Int × Int × Int) := if -9223372036854775808 ≤ n ∧ n < 9223372036854775808 then some (decide (n < 0), d0 n.natAbs, d1 n.natAbs, d2 n.natAbs, d3 n.natAbs, d4 n.natAbs) else none
set_option maxRecDepth 100000 in
set_option maxHeartbeats 1000000 in
theorem chanceryref17_big.calls (n : Int) (r0 : Bool) (r1 r2 r3 r4 r5 : Int) (w : World) (h : chanceryref17_big.f n = some (r0, r1, r2, r3, r4, r5)) :
    Calls Tryd.prog 66 #[.int .i64 n] w fun e w' => e = .returned (.agg #[.bool r0, .int .u64 r1, .int .u64 r2, .int .u64 r3, .int .u64 r4, .int .u64 r5]) ∧ Below w.heap.size w w' := by
  unfold chanceryref17_big.f at h
  by_cases hc : -9223372036854775808 ≤ n ∧ n < 9223372036854775808
  case neg => rw [if_neg hc] at h; cases h
  rw [if_pos hc] at h
  injection h with h
  simp only [Prod.mk.injEq] at h
  obtain ⟨q0, q1, q2, q3, q4, q5⟩ := h
  unfold d0 at q1
  unfold d1 at q2
  unfold d2 at q3
  unfold d3 at q4
  unfold d4 at q5
  by_cases hn : n < 0
  · obtain ⟨m, hm⟩ : ∃ m : Int, (n.natAbs : Int) = m := ⟨_, rfl⟩
    rw [hm] at q1 q2 q3 q4 q5
    have q3' : r3 = 0 := by omega
    have q4' : r4 = 0 := by omega
    have q5' : r5 = 0 := by omega
    have q2' : m / 4294967296 = r2 := by omega
    rw [decide_eq_true hn] at q0
    subst q0 q1 q2' q3' q4' q5'
    exact big_neg n m w hn hc.1 (by simp only [IntKind.wrap_u64]; omega) (by omega) (by omega)
  · have hm : (n.natAbs : Int) = n := by omega
    rw [hm] at q1 q2 q3 q4 q5
    have q3' : r3 = 0 := by omega
    have q4' : r4 = 0 := by omega
    have q5' : r5 = 0 := by omega
    have q2' : n / 4294967296 = r2 := by omega
    rw [decide_eq_false hn] at q0
    subst q0 q1 q2' q3' q4' q5'
    exact big_pos n w (by omega) hc.2
theorem eq5 (d : Nat) (w : World) (a0 b0 a1 b1 a2 b2 a3 b3 a4 b4 : Int) :
    (Op.equalIn (d + 2) 54 (.agg #[.int .u64 a0, .int .u64 a1, .int .u64 a2, .int .u64 a3, .int .u64 a4]) (.agg #[.int .u64 b0, .int .u64 b1, .int .u64 b2, .int .u64 b3, .int .u64 b4])).run Tryd.prog w = .ok (a0 == b0 && (a1 == b1 && (a2 == b2 && (a3 == b3 && a4 == b4)))) w := by
  have hu : Tryd.prog.underlying 54 = some (.array 5 47) := by kernel_rfl
  have hs : ∀ w, (sizeOf 47).run Tryd.prog w = .ok 1 w := by intro w; go_simp
  have hp : ∀ (i : Nat) (xs : Array Value) (v : Value) (w : World), xs[i]? = some v → (part 47 xs i).run Tryd.prog w = .ok v w := by
    intro i xs v w h; go_simp
  have he : ∀ (x y : Int) w, (Op.equalIn (d + 1) 47 (.int .u64 x) (.int .u64 y)).run Tryd.prog w = .ok (x == y) w := fun x y w => run_equalIn_int w d 47 .u64 .u64 x y (by kernel_rfl)
  rw [Op.equalIn]
  simp only [Sem.run_bind, run_underlying hu, Result.andThen_ok, hs]
  simp [List.range'_succ]
  rw [hp 0 _ (.int .u64 a0) _ rfl, Result.andThen_ok, hp 0 _ (.int .u64 b0) _ rfl, Result.andThen_ok, he, Result.andThen_ok]
  cases (a0 == b0) with
  | false => rfl
  | true =>
  simp only [Bool.true_and, reduceCtorEq, if_false]
  rw [hp 1 _ (.int .u64 a1) _ rfl, Result.andThen_ok, hp 1 _ (.int .u64 b1) _ rfl, Result.andThen_ok, he, Result.andThen_ok]
  cases (a1 == b1) with
  | false => rfl
  | true =>
  simp only [Bool.true_and, reduceCtorEq, if_false]
  rw [hp 2 _ (.int .u64 a2) _ rfl, Result.andThen_ok, hp 2 _ (.int .u64 b2) _ rfl, Result.andThen_ok, he, Result.andThen_ok]
  cases (a2 == b2) with
  | false => rfl
  | true =>
  simp only [Bool.true_and, reduceCtorEq, if_false]
  rw [hp 3 _ (.int .u64 a3) _ rfl, Result.andThen_ok, hp 3 _ (.int .u64 b3) _ rfl, Result.andThen_ok, he, Result.andThen_ok]
  cases (a3 == b3) with
  | false => rfl
  | true =>
  simp only [Bool.true_and, reduceCtorEq, if_false]
  rw [hp 4 _ (.int .u64 a4) _ rfl, Result.andThen_ok, hp 4 _ (.int .u64 b4) _ rfl, Result.andThen_ok, he, Result.andThen_ok]
  cases (a4 == b4) <;> rfl
attribute [local go_sem high] eq5
set_option maxRecDepth 100000 in
set_option maxHeartbeats 1000000 in
theorem sign_z (s : Bool) (w : World) :
    Calls Tryd.prog 45 #[.agg #[.bool s, .int .u64 0, .int .u64 0, .int .u64 0, .int .u64 0, .int .u64 0]] w fun e w' => e = .returned (.int .i64 0) ∧ Below w.heap.size w w' := by
  go_enter Tryd.func45, Tryd.ntmps45
  go_wp2_with fail
  simp [bodyPost, results, Tryd.results45, go_sem]
  try refine ⟨by assumption, ?_⟩
  repeat' (first | with_reducible exact Below.refl _ _ | with_reducible refine drew_ok ?_ _ | with_reducible refine set_ok ?_ ?_ _ | with_reducible refine below_alloc ?_ _)
  all_goals first | omega | trace_state
set_option maxRecDepth 100000 in
set_option maxHeartbeats 1000000 in
theorem sign_n (a0 a1 a2 a3 a4 : Int) (w : World) (hz : ¬ (a0 = 0 ∧ a1 = 0 ∧ a2 = 0 ∧ a3 = 0 ∧ a4 = 0)) :
    Calls Tryd.prog 45 #[.agg #[.bool true, .int .u64 a0, .int .u64 a1, .int .u64 a2, .int .u64 a3, .int .u64 a4]] w fun e w' => e = .returned (.int .i64 (-1)) ∧ Below w.heap.size w w' := by
  have hz' : (a0 == 0 && (a1 == 0 && (a2 == 0 && (a3 == 0 && a4 == 0)))) = false := by
    apply Bool.eq_false_iff.mpr
    intro h
    simp only [Bool.and_eq_true, beq_iff_eq] at h
    exact hz h
  go_enter Tryd.func45, Tryd.ntmps45
  go_wp2_with fail
  simp [bodyPost, results, Tryd.results45, go_sem]
  try refine ⟨by assumption, ?_⟩
  repeat' (first | with_reducible exact Below.refl _ _ | with_reducible refine drew_ok ?_ _ | with_reducible refine set_ok ?_ ?_ _ | with_reducible refine below_alloc ?_ _)
  all_goals first | omega | trace_state
set_option maxRecDepth 100000 in
set_option maxHeartbeats 1000000 in
theorem sign_p (a0 a1 a2 a3 a4 : Int) (w : World) (hz : ¬ (a0 = 0 ∧ a1 = 0 ∧ a2 = 0 ∧ a3 = 0 ∧ a4 = 0)) :
    Calls Tryd.prog 45 #[.agg #[.bool false, .int .u64 a0, .int .u64 a1, .int .u64 a2, .int .u64 a3, .int .u64 a4]] w fun e w' => e = .returned (.int .i64 1) ∧ Below w.heap.size w w' := by
  have hz' : (a0 == 0 && (a1 == 0 && (a2 == 0 && (a3 == 0 && a4 == 0)))) = false := by
    apply Bool.eq_false_iff.mpr
    intro h
    simp only [Bool.and_eq_true, beq_iff_eq] at h
    exact hz h
  go_enter Tryd.func45, Tryd.ntmps45
  go_wp2_with fail
  simp [bodyPost, results, Tryd.results45, go_sem]
  try refine ⟨by assumption, ?_⟩
  repeat' (first | with_reducible exact Below.refl _ _ | with_reducible refine drew_ok ?_ _ | with_reducible refine set_ok ?_ ?_ _ | with_reducible refine below_alloc ?_ _)
  all_goals first | omega | trace_state
def chanceryref17_sign.f (s : Bool) (a0 a1 a2 a3 a4 : Int) : Option Int := some (if a0 = 0 ∧ a1 = 0 ∧ a2 = 0 ∧ a3 = 0 ∧ a4 = 0 then 0 else if s then -1 else 1)
set_option maxRecDepth 100000 in
set_option maxHeartbeats 1000000 in
theorem chanceryref17_sign.calls (s : Bool) (a0 a1 a2 a3 a4 : Int) (r : Int) (w : World) (h : chanceryref17_sign.f s a0 a1 a2 a3 a4 = some r) :
    Calls Tryd.prog 45 #[.agg #[.bool s, .int .u64 a0, .int .u64 a1, .int .u64 a2, .int .u64 a3, .int .u64 a4]] w fun e w' => e = .returned (.int .i64 r) ∧ Below w.heap.size w w' := by
  unfold chanceryref17_sign.f at h
  injection h with h
  by_cases hz : a0 = 0 ∧ a1 = 0 ∧ a2 = 0 ∧ a3 = 0 ∧ a4 = 0
  · rw [if_pos hz] at h
    obtain ⟨rfl, rfl, rfl, rfl, rfl⟩ := hz
    subst h
    exact sign_z s w
  · rw [if_neg hz] at h
    cases s
    · subst h; exact sign_p a0 a1 a2 a3 a4 w hz
    · subst h; exact sign_n a0 a1 a2 a3 a4 w hz
set_option maxRecDepth 100000 in
set_option maxHeartbeats 1000000 in
theorem told_f (a0 a1 m : Int) (w : World) (l0 : 0 ≤ a0) (u0 : a0 < 4294967296) (l1 : 0 ≤ a1) (u1 : a1 < 4294967296) (hm : a1 * 4294967296 + a0 = m) (lm : 0 ≤ m) (um : ¬ m < 9223372036854775808) (vm : m < 18446744073709551616) (em : ¬ m = 9223372036854775808) :
    Calls Tryd.prog 87 #[.agg #[.bool false, .int .u64 a0, .int .u64 a1, .int .u64 0, .int .u64 0, .int .u64 0]] w fun e w' => e = .returned (.tuple #[.int .i64 0, .bool false]) ∧ Below w.heap.size w w' := by
  go_enter Tryd.func87, Tryd.ntmps87
  go_wp2_with fail
  simp [bodyPost, results, Tryd.results87, go_sem]
  try refine ⟨by assumption, ?_⟩
  repeat' (first | with_reducible exact Below.refl _ _ | with_reducible refine drew_ok ?_ _ | with_reducible refine set_ok ?_ ?_ _ | with_reducible refine below_alloc ?_ _)
  all_goals first | omega | trace_state
end Go.Proofs.YtbodlnoipkommaaDoor.Rc

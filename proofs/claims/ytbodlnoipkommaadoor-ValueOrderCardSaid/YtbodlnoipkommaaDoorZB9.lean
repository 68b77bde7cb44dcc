/- Merged out of this session's texts: Xc, Xd, Wl -/
import Derived.Test.YtbodlnoipkommaaDoorZB8
import Derived.Test.YtbodlnoipkommaaDoorZB5
import Derived.Test.YtbodlnoipkommaaDoorZB7
import Derived.Test.YtbodlnoipkommaaDoorZB4
import Derived.Deep.RegionHeld3
import Derived.Deep.DeepCutAuto
import Derived.Test.YtbodlnoipkommaaDoorZB6
import Derived.Deep.QuietTactic
import Derived.BigQuiet
import Derived.Laws.BitsAllLaws
import Derived.LoopN
/- value.Compare: the walk (printed by wip/value/gen_xc.py). -/
namespace Go.Proofs.YtbodlnoipkommaaDoor.Xc
open Go.RowKit Go.Proofs.YtbodlnoipkommaaDoor.Q Go.Proofs.YtbodlnoipkommaaDoor.We Go.Proofs.YtbodlnoipkommaaDoor.Wh Go.Proofs.YtbodlnoipkommaaDoor.Wi Go.Proofs.YtbodlnoipkommaaDoor.Wj Go.Proofs.YtbodlnoipkommaaDoor.Wm Go.Proofs.YtbodlnoipkommaaDoor.Wn Go.Proofs.YtbodlnoipkommaaDoor.Wp Go.Proofs.YtbodlnoipkommaaDoor.Pa Go.Proofs.YtbodlnoipkommaaDoor.Pb Go.Proofs.YtbodlnoipkommaaDoorW.PrintWords Go.Proofs.YtbodlnoipkommaaDoorW.PrintLast Go.Proofs.YtbodlnoipkommaaDoorW.PrintMore
abbrev Vl (k n : Int) (s : ByteArray) : Value := .agg #[.int .u8 k, .int .i64 n, .string s]
abbrev Res (a b : Int) : Ending := .returned (.tuple #[.int .u8 a, .int .i64 b])
theorem lt_alloc {W w' : World} {o : Obj} (hb : Below (W.alloc o).heap.size (W.alloc o) w') : W.heap.size < w'.heap.size := by have := hb.size; simp at this; omega
theorem lt_allocd {W w' : World} {o : Obj} (hb : Below (W.alloc o).drew.heap.size (W.alloc o).drew w') : W.heap.size < w'.heap.size := by have := hb.size; simp at this; omega
theorem lt_keep {W w' : World} {b : Nat} (hb : Below W.heap.size W w') (h : b < W.heap.size) : b < w'.heap.size := Nat.lt_of_lt_of_le h hb.size
theorem Res_eq {a b c : Int} (h : a = b) : Res a c = Res b c := by rw [h]
set_option maxRecDepth 100000 in
set_option maxHeartbeats 4000000 in
theorem c_lo (op k0 n0 : Int) (s0 : ByteArray) (k1 n1 : Int) (s1 : ByteArray) (w : World) (h : op < 7) :
    Calls Tryd.prog 9 #[.int .u8 op, Vl k0 n0 s0, Vl k1 n1 s1] w fun e w' => e = Res 0 2 ∧ Below w.heap.size w w' := by
  go_enter Tryd.func9, Tryd.ntmps9
  go_wp2_with fail
  go_ret2
  exact ⟨rfl, below_alloc (below_alloc (Below.refl _ _) _) _⟩
set_option maxRecDepth 100000 in
set_option maxHeartbeats 4000000 in
theorem c_hi (op k0 n0 : Int) (s0 : ByteArray) (k1 n1 : Int) (s1 : ByteArray) (w : World) (h' : ¬ op < 7) (h : op > 12) :
    Calls Tryd.prog 9 #[.int .u8 op, Vl k0 n0 s0, Vl k1 n1 s1] w fun e w' => e = Res 0 2 ∧ Below w.heap.size w w' := by
  go_enter Tryd.func9, Tryd.ntmps9
  go_wp2_with fail
  go_ret2
  exact ⟨rfl, below_alloc (below_alloc (Below.refl _ _) _) _⟩
set_option maxRecDepth 100000 in
set_option maxHeartbeats 4000000 in
theorem c_r0 (op k0 n0 : Int) (s0 : ByteArray) (k1 n1 : Int) (s1 : ByteArray) (w : World) (o7 : ¬ op < 7) (o12 : ¬ op > 12) (hr0 : rightB k0 n0 s0 = false) :
    Calls Tryd.prog 9 #[.int .u8 op, Vl k0 n0 s0, Vl k1 n1 s1] w fun e w' => e = Res 0 2 ∧ Below w.heap.size w w' := by
  have N := Aside0.mk (value_Right.calls 1 k0 n0 s0 (rightB k0 n0 s0) · (right_f 0 k0 n0 s0))
  rw [hr0] at N
  clear hr0
  go_enter Tryd.func9, Tryd.ntmps9
  go_wp2_with fail
  refine (N.out _).mono ?_
  rintro e w1 ⟨rfl, hb1⟩
  obtain ⟨c10, f10, l10⟩ := bcells hb1 (w.heap.size) (by first | assumption | (simp; done) | (simp; omega) | omega)
  obtain ⟨c11, f11, l11⟩ := bcells hb1 (w.heap.size + 1) (by first | assumption | (simp; done) | (simp; omega) | omega)
  replace hb1 := Aside0.mk hb1
  go_wp2_with fail
  go_ret2
  exact ⟨rfl, below_step (below_alloc (below_alloc (Below.refl _ _) _) _) hb1.out⟩
set_option maxRecDepth 100000 in
set_option maxHeartbeats 4000000 in
theorem c_r1 (op k0 n0 : Int) (s0 : ByteArray) (k1 n1 : Int) (s1 : ByteArray) (w : World) (o7 : ¬ op < 7) (o12 : ¬ op > 12) (hr0 : rightB k0 n0 s0 = true) (hr1 : rightB k1 n1 s1 = false) :
    Calls Tryd.prog 9 #[.int .u8 op, Vl k0 n0 s0, Vl k1 n1 s1] w fun e w' => e = Res 0 2 ∧ Below w.heap.size w w' := by
  have N := Aside0.mk (value_Right.calls 1 k0 n0 s0 (rightB k0 n0 s0) · (right_f 0 k0 n0 s0))
  rw [hr0] at N
  clear hr0
  have M := Aside0.mk (value_Right.calls 1 k1 n1 s1 (rightB k1 n1 s1) · (right_f 0 k1 n1 s1))
  rw [hr1] at M
  clear hr1
  go_enter Tryd.func9, Tryd.ntmps9
  go_wp2_with fail
  refine (N.out _).mono ?_
  rintro e w1 ⟨rfl, hb1⟩
  obtain ⟨c10, f10, l10⟩ := bcells hb1 (w.heap.size) (by first | assumption | (simp; done) | (simp; omega) | omega)
  obtain ⟨c11, f11, l11⟩ := bcells hb1 (w.heap.size + 1) (by first | assumption | (simp; done) | (simp; omega) | omega)
  replace hb1 := Aside0.mk hb1
  go_wp2_with fail
  refine (M.out _).mono ?_
  rintro e w2 ⟨rfl, hb2⟩
  obtain ⟨c20, f20, l20⟩ := bcells hb2 (w.heap.size) (by first | assumption | (simp; done) | (simp; omega) | omega)
  obtain ⟨c21, f21, l21⟩ := bcells hb2 (w.heap.size + 1) (by first | assumption | (simp; done) | (simp; omega) | omega)
  replace hb2 := Aside0.mk hb2
  go_wp2_with fail
  go_ret2
  exact ⟨rfl, below_step (below_step (below_alloc (below_alloc (Below.refl _ _) _) _) hb1.out) hb2.out⟩
set_option maxRecDepth 100000 in
set_option maxHeartbeats 4000000 in
theorem c_null0 (op k0 n0 : Int) (s0 : ByteArray) (k1 n1 : Int) (s1 : ByteArray) (w : World) (o7 : ¬ op < 7) (o12 : ¬ op > 12) (hr0 : rightB k0 n0 s0 = true) (hr1 : rightB k1 n1 s1 = true) (z0 : (k0 == 0) = true) :
    Calls Tryd.prog 9 #[.int .u8 op, Vl k0 n0 s0, Vl k1 n1 s1] w fun e w' => e = Res 2 0 ∧ Below w.heap.size w w' := by
  have N := Aside0.mk (value_Right.calls 1 k0 n0 s0 (rightB k0 n0 s0) · (right_f 0 k0 n0 s0))
  rw [hr0] at N
  clear hr0
  have M := Aside0.mk (value_Right.calls 1 k1 n1 s1 (rightB k1 n1 s1) · (right_f 0 k1 n1 s1))
  rw [hr1] at M
  clear hr1
  obtain rfl : k0 = 0 := by simpa using z0
  clear z0
  go_enter Tryd.func9, Tryd.ntmps9
  go_wp2_with fail
  refine (N.out _).mono ?_
  rintro e w1 ⟨rfl, hb1⟩
  obtain ⟨c10, f10, l10⟩ := bcells hb1 (w.heap.size) (by first | assumption | (simp; done) | (simp; omega) | omega)
  obtain ⟨c11, f11, l11⟩ := bcells hb1 (w.heap.size + 1) (by first | assumption | (simp; done) | (simp; omega) | omega)
  replace hb1 := Aside0.mk hb1
  go_wp2_with fail
  refine (M.out _).mono ?_
  rintro e w2 ⟨rfl, hb2⟩
  obtain ⟨c20, f20, l20⟩ := bcells hb2 (w.heap.size) (by first | assumption | (simp; done) | (simp; omega) | omega)
  obtain ⟨c21, f21, l21⟩ := bcells hb2 (w.heap.size + 1) (by first | assumption | (simp; done) | (simp; omega) | omega)
  replace hb2 := Aside0.mk hb2
  go_wp2_with fail
  go_ret2
  exact ⟨rfl, below_step (below_step (below_alloc (below_alloc (Below.refl _ _) _) _) hb1.out) hb2.out⟩
set_option maxRecDepth 100000 in
set_option maxHeartbeats 4000000 in
theorem c_null1 (op k0 n0 : Int) (s0 : ByteArray) (k1 n1 : Int) (s1 : ByteArray) (w : World) (o7 : ¬ op < 7) (o12 : ¬ op > 12) (hr0 : rightB k0 n0 s0 = true) (hr1 : rightB k1 n1 s1 = true) (z0 : (k0 == 0) = false) (z1 : (k1 == 0) = true) :
    Calls Tryd.prog 9 #[.int .u8 op, Vl k0 n0 s0, Vl k1 n1 s1] w fun e w' => e = Res 2 0 ∧ Below w.heap.size w w' := by
  have N := Aside0.mk (value_Right.calls 1 k0 n0 s0 (rightB k0 n0 s0) · (right_f 0 k0 n0 s0))
  rw [hr0] at N
  clear hr0
  have M := Aside0.mk (value_Right.calls 1 k1 n1 s1 (rightB k1 n1 s1) · (right_f 0 k1 n1 s1))
  rw [hr1] at M
  clear hr1
  obtain rfl : k1 = 0 := by simpa using z1
  clear z1
  go_enter Tryd.func9, Tryd.ntmps9
  go_wp2_with fail
  refine (N.out _).mono ?_
  rintro e w1 ⟨rfl, hb1⟩
  obtain ⟨c10, f10, l10⟩ := bcells hb1 (w.heap.size) (by first | assumption | (simp; done) | (simp; omega) | omega)
  obtain ⟨c11, f11, l11⟩ := bcells hb1 (w.heap.size + 1) (by first | assumption | (simp; done) | (simp; omega) | omega)
  replace hb1 := Aside0.mk hb1
  go_wp2_with fail
  refine (M.out _).mono ?_
  rintro e w2 ⟨rfl, hb2⟩
  obtain ⟨c20, f20, l20⟩ := bcells hb2 (w.heap.size) (by first | assumption | (simp; done) | (simp; omega) | omega)
  obtain ⟨c21, f21, l21⟩ := bcells hb2 (w.heap.size + 1) (by first | assumption | (simp; done) | (simp; omega) | omega)
  replace hb2 := Aside0.mk hb2
  go_wp2_with fail
  go_ret2
  exact ⟨rfl, below_step (below_step (below_alloc (below_alloc (Below.refl _ _) _) _) hb1.out) hb2.out⟩
set_option maxRecDepth 100000 in
set_option maxHeartbeats 4000000 in
theorem c_same (op k0 n0 : Int) (s0 : ByteArray) (k1 n1 : Int) (s1 : ByteArray) (w : World) (o7 : ¬ op < 7) (o12 : ¬ op > 12) (hr0 : rightB k0 n0 s0 = true) (hr1 : rightB k1 n1 s1 = true) (z0 : (k0 == 0) = false) (z1 : (k1 == 0) = false) (e : (k0 != k1) = false) :
    Calls Tryd.prog 9 #[.int .u8 op, Vl k0 n0 s0, Vl k1 n1 s1] w fun e w' => e = Res (boolT (cmpop op (orderR k0 n0 s0 k1 n1 s1))) 0 ∧ Below w.heap.size w w' := by
  have O := Aside0.mk (value_Order.calls k0 n0 s0 k1 n1 s1 _ · (order_f k0 n0 s0 k1 n1 s1))
  have hr := order_range k0 n0 s0 k1 n1 s1
  generalize orderR k0 n0 s0 k1 n1 s1 = c at *
  have N := Aside0.mk (value_Right.calls 1 k0 n0 s0 (rightB k0 n0 s0) · (right_f 0 k0 n0 s0))
  rw [hr0] at N
  clear hr0
  have M := Aside0.mk (value_Right.calls 1 k1 n1 s1 (rightB k1 n1 s1) · (right_f 0 k1 n1 s1))
  rw [hr1] at M
  clear hr1
  rcases hr with rfl | rfl | rfl
  all_goals
    go_enter Tryd.func9, Tryd.ntmps9
    go_wp2_with fail
    refine (N.out _).mono ?_
    rintro e w1 ⟨rfl, hb1⟩
    obtain ⟨c10, f10, l10⟩ := bcells hb1 (w.heap.size) (by first | assumption | (simp; done) | (simp; omega) | omega)
    obtain ⟨c11, f11, l11⟩ := bcells hb1 (w.heap.size + 1) (by first | assumption | (simp; done) | (simp; omega) | omega)
    replace hb1 := Aside0.mk hb1
    go_wp2_with fail
    refine (M.out _).mono ?_
    rintro e w2 ⟨rfl, hb2⟩
    obtain ⟨c20, f20, l20⟩ := bcells hb2 (w.heap.size) (by first | assumption | (simp; done) | (simp; omega) | omega)
    obtain ⟨c21, f21, l21⟩ := bcells hb2 (w.heap.size + 1) (by first | assumption | (simp; done) | (simp; omega) | omega)
    replace hb2 := Aside0.mk hb2
    go_wp2_with fail
    refine (O.out _).mono ?_
    rintro e w3 ⟨rfl, hb3⟩
    obtain ⟨c30, f30, l30⟩ := bcells hb3 (w.heap.size) (by first | assumption | (simp; done) | (simp; omega) | omega)
    obtain ⟨c31, f31, l31⟩ := bcells hb3 (w.heap.size + 1) (by first | assumption | (simp; done) | (simp; omega) | omega)
    replace hb3 := Aside0.mk hb3
    go_wp2_with fail
    all_goals
      go_ret2
      refine ⟨Res_eq ?_, below_step (below_step (below_step (below_alloc (below_alloc (Below.refl _ _) _) _) hb1.out) hb2.out) hb3.out⟩
      first | (simp only [*, cmpop, boolT, cond_true, cond_false]; first | done | rfl | decide) | (exfalso; have a7 := beq_eq_false_iff_ne.mp ‹(op == 7) = false›; have a8 := beq_eq_false_iff_ne.mp ‹(op == 8) = false›; have a9 := beq_eq_false_iff_ne.mp ‹(op == 9) = false›; have a10 := beq_eq_false_iff_ne.mp ‹(op == 10) = false›; have a11 := beq_eq_false_iff_ne.mp ‹(op == 11) = false›; have a12 := beq_eq_false_iff_ne.mp ‹(op == 12) = false›; omega)
set_option maxRecDepth 100000 in
set_option maxHeartbeats 4000000 in
theorem c_k0 (op k0 n0 : Int) (s0 : ByteArray) (k1 n1 : Int) (s1 : ByteArray) (w : World) (o7 : ¬ op < 7) (o12 : ¬ op > 12) (hr0 : rightB k0 n0 s0 = true) (hr1 : rightB k1 n1 s1 = true) (z0 : (k0 == 0) = false) (z1 : (k1 == 0) = false) (e : (k0 != k1) = true) (q0 : numB k0 = false) :
    Calls Tryd.prog 9 #[.int .u8 op, Vl k0 n0 s0, Vl k1 n1 s1] w fun e w' => e = Res 0 270 ∧ Below w.heap.size w w' := by
  have O := Aside0.mk (value_Order.calls k0 n0 s0 k1 n1 s1 _ · (order_f k0 n0 s0 k1 n1 s1))
  generalize orderR k0 n0 s0 k1 n1 s1 = c at *
  have N := Aside0.mk (value_Right.calls 1 k0 n0 s0 (rightB k0 n0 s0) · (right_f 0 k0 n0 s0))
  rw [hr0] at N
  clear hr0
  have M := Aside0.mk (value_Right.calls 1 k1 n1 s1 (rightB k1 n1 s1) · (right_f 0 k1 n1 s1))
  rw [hr1] at M
  clear hr1
  have A0 := Aside0.mk (value_number.calls k0 n0 s0 (numB k0) · (number_f k0 n0 s0))
  rw [q0] at A0
  clear q0
  go_enter Tryd.func9, Tryd.ntmps9
  go_wp2_with fail
  refine (N.out _).mono ?_
  rintro e w1 ⟨rfl, hb1⟩
  obtain ⟨c10, f10, l10⟩ := bcells hb1 (w.heap.size) (by first | assumption | (simp; done) | (simp; omega) | omega)
  obtain ⟨c11, f11, l11⟩ := bcells hb1 (w.heap.size + 1) (by first | assumption | (simp; done) | (simp; omega) | omega)
  replace hb1 := Aside0.mk hb1
  go_wp2_with fail
  refine (M.out _).mono ?_
  rintro e w2 ⟨rfl, hb2⟩
  obtain ⟨c20, f20, l20⟩ := bcells hb2 (w.heap.size) (by first | assumption | (simp; done) | (simp; omega) | omega)
  obtain ⟨c21, f21, l21⟩ := bcells hb2 (w.heap.size + 1) (by first | assumption | (simp; done) | (simp; omega) | omega)
  replace hb2 := Aside0.mk hb2
  go_wp2_with fail
  refine (O.out _).mono ?_
  rintro e w3 ⟨rfl, hb3⟩
  obtain ⟨c30, f30, l30⟩ := bcells hb3 (w.heap.size) (by first | assumption | (simp; done) | (simp; omega) | omega)
  obtain ⟨c31, f31, l31⟩ := bcells hb3 (w.heap.size + 1) (by first | assumption | (simp; done) | (simp; omega) | omega)
  replace hb3 := Aside0.mk hb3
  go_wp2_with fail
  refine (A0.out _).mono ?_
  rintro e w4 ⟨rfl, hb4⟩
  obtain ⟨c40, f40, l40⟩ := bcells hb4 (w.heap.size) (by first | assumption | (simp; done) | (simp; omega) | omega)
  obtain ⟨c41, f41, l41⟩ := bcells hb4 (w.heap.size + 1) (by first | assumption | (simp; done) | (simp; omega) | omega)
  replace hb4 := Aside0.mk hb4
  go_wp2_with fail
  go_ret2
  exact ⟨rfl, below_step (below_step (below_step (below_step (below_alloc (below_alloc (Below.refl _ _) _) _) hb1.out) hb2.out) hb3.out) hb4.out⟩
set_option maxRecDepth 100000 in
set_option maxHeartbeats 4000000 in
theorem c_k1 (op k0 n0 : Int) (s0 : ByteArray) (k1 n1 : Int) (s1 : ByteArray) (w : World) (o7 : ¬ op < 7) (o12 : ¬ op > 12) (hr0 : rightB k0 n0 s0 = true) (hr1 : rightB k1 n1 s1 = true) (z0 : (k0 == 0) = false) (z1 : (k1 == 0) = false) (e : (k0 != k1) = true) (q0 : numB k0 = true) (q1 : numB k1 = false) :
    Calls Tryd.prog 9 #[.int .u8 op, Vl k0 n0 s0, Vl k1 n1 s1] w fun e w' => e = Res 0 270 ∧ Below w.heap.size w w' := by
  have O := Aside0.mk (value_Order.calls k0 n0 s0 k1 n1 s1 _ · (order_f k0 n0 s0 k1 n1 s1))
  generalize orderR k0 n0 s0 k1 n1 s1 = c at *
  have N := Aside0.mk (value_Right.calls 1 k0 n0 s0 (rightB k0 n0 s0) · (right_f 0 k0 n0 s0))
  rw [hr0] at N
  clear hr0
  have M := Aside0.mk (value_Right.calls 1 k1 n1 s1 (rightB k1 n1 s1) · (right_f 0 k1 n1 s1))
  rw [hr1] at M
  clear hr1
  have A0 := Aside0.mk (value_number.calls k0 n0 s0 (numB k0) · (number_f k0 n0 s0))
  rw [q0] at A0
  clear q0
  have A1 := Aside0.mk (value_number.calls k1 n1 s1 (numB k1) · (number_f k1 n1 s1))
  rw [q1] at A1
  clear q1
  go_enter Tryd.func9, Tryd.ntmps9
  go_wp2_with fail
  refine (N.out _).mono ?_
  rintro e w1 ⟨rfl, hb1⟩
  obtain ⟨c10, f10, l10⟩ := bcells hb1 (w.heap.size) (by first | assumption | (simp; done) | (simp; omega) | omega)
  obtain ⟨c11, f11, l11⟩ := bcells hb1 (w.heap.size + 1) (by first | assumption | (simp; done) | (simp; omega) | omega)
  replace hb1 := Aside0.mk hb1
  go_wp2_with fail
  refine (M.out _).mono ?_
  rintro e w2 ⟨rfl, hb2⟩
  obtain ⟨c20, f20, l20⟩ := bcells hb2 (w.heap.size) (by first | assumption | (simp; done) | (simp; omega) | omega)
  obtain ⟨c21, f21, l21⟩ := bcells hb2 (w.heap.size + 1) (by first | assumption | (simp; done) | (simp; omega) | omega)
  replace hb2 := Aside0.mk hb2
  go_wp2_with fail
  refine (O.out _).mono ?_
  rintro e w3 ⟨rfl, hb3⟩
  obtain ⟨c30, f30, l30⟩ := bcells hb3 (w.heap.size) (by first | assumption | (simp; done) | (simp; omega) | omega)
  obtain ⟨c31, f31, l31⟩ := bcells hb3 (w.heap.size + 1) (by first | assumption | (simp; done) | (simp; omega) | omega)
  replace hb3 := Aside0.mk hb3
  go_wp2_with fail
  refine (A0.out _).mono ?_
  rintro e w4 ⟨rfl, hb4⟩
  obtain ⟨c40, f40, l40⟩ := bcells hb4 (w.heap.size) (by first | assumption | (simp; done) | (simp; omega) | omega)
  obtain ⟨c41, f41, l41⟩ := bcells hb4 (w.heap.size + 1) (by first | assumption | (simp; done) | (simp; omega) | omega)
  replace hb4 := Aside0.mk hb4
  go_wp2_with fail
  refine (A1.out _).mono ?_
  rintro e w5 ⟨rfl, hb5⟩
  obtain ⟨c50, f50, l50⟩ := bcells hb5 (w.heap.size) (by first | assumption | (simp; done) | (simp; omega) | omega)
  obtain ⟨c51, f51, l51⟩ := bcells hb5 (w.heap.size + 1) (by first | assumption | (simp; done) | (simp; omega) | omega)
  replace hb5 := Aside0.mk hb5
  go_wp2_with fail
  go_ret2
  exact ⟨rfl, below_step (below_step (below_step (below_step (below_step (below_alloc (below_alloc (Below.refl _ _) _) _) hb1.out) hb2.out) hb3.out) hb4.out) hb5.out⟩
set_option maxRecDepth 100000 in
set_option maxHeartbeats 4000000 in
theorem c_num (op k0 n0 : Int) (s0 : ByteArray) (k1 n1 : Int) (s1 : ByteArray) (x0 x1 y0 y1 v0 v1 r0 r1 t : Int) (w : World) (o7 : ¬ op < 7) (o12 : ¬ op > 12) (hr0 : rightB k0 n0 s0 = true) (hr1 : rightB k1 n1 s1 = true) (z0 : (k0 == 0) = false) (z1 : (k1 == 0) = false) (e : (k0 != k1) = true) (q0 : numB k0 = true) (q1 : numB k1 = true)
    (hx : value_fixed.f k0 n0 s0 = some (x0, x1)) (hy : value_fixed.f k1 n1 s1 = some (y0, y1)) (ht : value_wide_minus.f y0 y1 = some (v0, v1)) (hp : value_wide_plus.f x0 x1 v0 v1 = some (r0, r1)) (hk : cmp_Compare_int64.f r0 0 = some t) (tr : t = -1 ∨ t = 0 ∨ t = 1) :
    Calls Tryd.prog 9 #[.int .u8 op, Vl k0 n0 s0, Vl k1 n1 s1] w fun e w' => e = Res (boolT (cmpop op (if t = 0 then (if r1 = 0 then t else 1) else t))) 0 ∧ Below w.heap.size w w' := by
  have F0 := Aside0.mk (value_fixed.calls k0 n0 s0 x0 x1 · hx)
  have F1 := Aside0.mk (value_fixed.calls k1 n1 s1 y0 y1 · hy)
  have Mi := Aside0.mk (value_wide_minus.calls y0 y1 v0 v1 · ht)
  have P := Aside0.mk (value_wide_plus.calls x0 x1 v0 v1 r0 r1 · hp)
  have K := Aside0.mk (cmp_Compare_int64.calls r0 0 t · hk)
  clear hx hy ht hp hk
  have O := Aside0.mk (value_Order.calls k0 n0 s0 k1 n1 s1 _ · (order_f k0 n0 s0 k1 n1 s1))
  generalize orderR k0 n0 s0 k1 n1 s1 = c at *
  have N := Aside0.mk (value_Right.calls 1 k0 n0 s0 (rightB k0 n0 s0) · (right_f 0 k0 n0 s0))
  rw [hr0] at N
  clear hr0
  have M := Aside0.mk (value_Right.calls 1 k1 n1 s1 (rightB k1 n1 s1) · (right_f 0 k1 n1 s1))
  rw [hr1] at M
  clear hr1
  have A0 := Aside0.mk (value_number.calls k0 n0 s0 (numB k0) · (number_f k0 n0 s0))
  rw [q0] at A0
  clear q0
  have A1 := Aside0.mk (value_number.calls k1 n1 s1 (numB k1) · (number_f k1 n1 s1))
  rw [q1] at A1
  clear q1
  go_enter Tryd.func9, Tryd.ntmps9
  go_wp2_with fail
  refine (N.out _).mono ?_
  rintro e w1 ⟨rfl, hb1⟩
  obtain ⟨c10, f10, l10⟩ := bcells hb1 (w.heap.size) (by first | assumption | (simp; done) | (simp; omega) | omega)
  obtain ⟨c11, f11, l11⟩ := bcells hb1 (w.heap.size + 1) (by first | assumption | (simp; done) | (simp; omega) | omega)
  replace hb1 := Aside0.mk hb1
  go_wp2_with fail
  refine (M.out _).mono ?_
  rintro e w2 ⟨rfl, hb2⟩
  obtain ⟨c20, f20, l20⟩ := bcells hb2 (w.heap.size) (by first | assumption | (simp; done) | (simp; omega) | omega)
  obtain ⟨c21, f21, l21⟩ := bcells hb2 (w.heap.size + 1) (by first | assumption | (simp; done) | (simp; omega) | omega)
  replace hb2 := Aside0.mk hb2
  go_wp2_with fail
  refine (O.out _).mono ?_
  rintro e w3 ⟨rfl, hb3⟩
  obtain ⟨c30, f30, l30⟩ := bcells hb3 (w.heap.size) (by first | assumption | (simp; done) | (simp; omega) | omega)
  obtain ⟨c31, f31, l31⟩ := bcells hb3 (w.heap.size + 1) (by first | assumption | (simp; done) | (simp; omega) | omega)
  replace hb3 := Aside0.mk hb3
  go_wp2_with fail
  refine (A0.out _).mono ?_
  rintro e w4 ⟨rfl, hb4⟩
  obtain ⟨c40, f40, l40⟩ := bcells hb4 (w.heap.size) (by first | assumption | (simp; done) | (simp; omega) | omega)
  obtain ⟨c41, f41, l41⟩ := bcells hb4 (w.heap.size + 1) (by first | assumption | (simp; done) | (simp; omega) | omega)
  replace hb4 := Aside0.mk hb4
  go_wp2_with fail
  refine (A1.out _).mono ?_
  rintro e w5 ⟨rfl, hb5⟩
  obtain ⟨c50, f50, l50⟩ := bcells hb5 (w.heap.size) (by first | assumption | (simp; done) | (simp; omega) | omega)
  obtain ⟨c51, f51, l51⟩ := bcells hb5 (w.heap.size + 1) (by first | assumption | (simp; done) | (simp; omega) | omega)
  replace hb5 := Aside0.mk hb5
  go_wp2_with fail
  have rules : ∀ W, Below w5.heap.size w5 W → (W.cell? ⟨w.heap.size, 0, none⟩ = some (.int .u8 k0) ∧ W.cell? ⟨w.heap.size, 1, none⟩ = some (.int .i64 n0) ∧ W.cell? ⟨w.heap.size, 2, none⟩ = some (.string s0)) ∧ W.cell? ⟨w.heap.size + 1, 0, none⟩ = some (.int .u8 k1) ∧ W.cell? ⟨w.heap.size + 1, 1, none⟩ = some (.int .i64 n1) ∧ W.cell? ⟨w.heap.size + 1, 2, none⟩ = some (.string s1) :=
    fun W h => ⟨⟨pw_cell_below h (by go_simp), pw_cell_below h (by go_simp), pw_cell_below h (by go_simp)⟩, pw_cell_below h (by go_simp), pw_cell_below h (by go_simp), pw_cell_below h (by go_simp)⟩
  have ra0 := fun W h => (rules W h).1.1
  have ra1 := fun W h => (rules W h).1.2.1
  have ra2 := fun W h => (rules W h).1.2.2
  have rb0 := fun W h => (rules W h).2.1
  have rb1 := fun W h => (rules W h).2.2.1
  have rb2 := fun W h => (rules W h).2.2.2
  clear rules c10 c11 c20 c21 c30 c31 c40 c41 c50 c51 f10 f11 f20 f21 f30 f31 f40 f41 f50 f51 l10 l11 l20 l21 l30 l31 l40 l41 l50 l51
  have St0 := Aside0.mk (show Below w5.heap.size w5 w5.drew from below_drew1 (Below.refl _ _))
  go_cut [9] (fun s9 wx => ∃ g : Nat, s9 = .pointer (some ⟨g, 0, none⟩) ∧ wx.cell? ⟨g, 0, none⟩ = some (.int .i64 r0) ∧ wx.cell? ⟨g, 1, none⟩ = some (.int .u64 r1) ∧ Below w5.heap.size w5 wx)
  case first =>
    go_region_held3 (fun W => Below w5.heap.size w5 W)
      (first | (with_reducible exact St0.out) | (with_reducible exact below_drew1 (below_alloc (Below.refl _ _) _)) | (with_reducible exact below_step (by assumption) hb) | (with_reducible exact below_alloc (by assumption) _) | (with_reducible exact below_alloc hB _) | (exact set_ok (set_ok (by assumption) (by first | exact Nat.le_refl _ | exact below_size (by assumption)) _) (by first | exact Nat.le_refl _ | exact below_size (by assumption)) _))
      (first | (((with_reducible refine (F0.out _).mono ?_); rintro e w' ⟨rfl, hb⟩; have hB := (below_step (by assumption) hb : Below w5.heap.size w5 w'); have cR := (bcell hb).1; have fR := (bcell hb).2; first | (have lR := lt_alloc hb) | (have lR := lt_allocd hb) | (have lR := lt_keep hb (by assumption)) | skip)) | (((with_reducible refine (F1.out _).mono ?_); rintro e w' ⟨rfl, hb⟩; have hB := (below_step (by assumption) hb : Below w5.heap.size w5 w'); have cR := (bcell hb).1; have fR := (bcell hb).2; first | (have lR := lt_alloc hb) | (have lR := lt_allocd hb) | (have lR := lt_keep hb (by assumption)) | skip)) | (((with_reducible refine (Mi.out _).mono ?_); rintro e w' ⟨rfl, hb⟩; have hB := (below_step (by assumption) hb : Below w5.heap.size w5 w'); have cR := (bcell hb).1; have fR := (bcell hb).2; first | (have lR := lt_alloc hb) | (have lR := lt_allocd hb) | (have lR := lt_keep hb (by assumption)) | skip)) | (((with_reducible refine (P.out _).mono ?_); rintro e w' ⟨rfl, hb⟩; have hB := (below_step (by assumption) hb : Below w5.heap.size w5 w'); have cR := (bcell hb).1; have fR := (bcell hb).2; first | (have lR := lt_alloc hb) | (have lR := lt_allocd hb) | (have lR := lt_keep hb (by assumption)) | skip)))
    all_goals (go_wp2_with fail; go_meet; exact ⟨_, rfl, by go_simp, by go_simp, by assumption⟩)
  case rest =>
    obtain ⟨g, rfl, g0, g1, hb6⟩ := hcut
    replace hb6 := Aside0.mk hb6
    have bz : Below w.heap.size w wc := below_step (below_step (below_step (below_step (below_step (below_step (below_alloc (below_alloc (Below.refl _ _) _) _) hb1.out) hb2.out) hb3.out) hb4.out) hb5.out) hb6.out
    replace bz := Aside0.mk bz
    go_wp2_with fail
    refine (K.out _).mono ?_
    rintro e w' ⟨rfl, ⟨nn, rfl⟩⟩
    rcases tr with rfl | rfl | rfl
    case inl =>
      go_wp2
      all_goals
        go_ret2
        refine ⟨Res_eq ?_, (pw_below_drewN bz.out _)⟩
        first | (simp only [*, cmpop, boolT, cond_true, cond_false]; first | done | rfl | decide) | (exfalso; have a7 := beq_eq_false_iff_ne.mp ‹(op == 7) = false›; have a8 := beq_eq_false_iff_ne.mp ‹(op == 8) = false›; have a9 := beq_eq_false_iff_ne.mp ‹(op == 9) = false›; have a10 := beq_eq_false_iff_ne.mp ‹(op == 10) = false›; have a11 := beq_eq_false_iff_ne.mp ‹(op == 11) = false›; have a12 := beq_eq_false_iff_ne.mp ‹(op == 12) = false›; omega)
    case inr.inr =>
      go_wp2
      all_goals
        go_ret2
        refine ⟨Res_eq ?_, (pw_below_drewN bz.out _)⟩
        first | (simp only [*, cmpop, boolT, cond_true, cond_false]; first | done | rfl | decide) | (exfalso; have a7 := beq_eq_false_iff_ne.mp ‹(op == 7) = false›; have a8 := beq_eq_false_iff_ne.mp ‹(op == 8) = false›; have a9 := beq_eq_false_iff_ne.mp ‹(op == 9) = false›; have a10 := beq_eq_false_iff_ne.mp ‹(op == 10) = false›; have a11 := beq_eq_false_iff_ne.mp ‹(op == 11) = false›; have a12 := beq_eq_false_iff_ne.mp ‹(op == 12) = false›; omega)
    case inr.inl =>
      by_cases hz : r1 = 0
      · subst hz
        go_wp2
        all_goals
          go_ret2
          refine ⟨Res_eq ?_, (pw_below_drewN bz.out _)⟩
          first | (simp only [*, cmpop, boolT, cond_true, cond_false]; first | done | rfl | decide) | (exfalso; have a7 := beq_eq_false_iff_ne.mp ‹(op == 7) = false›; have a8 := beq_eq_false_iff_ne.mp ‹(op == 8) = false›; have a9 := beq_eq_false_iff_ne.mp ‹(op == 9) = false›; have a10 := beq_eq_false_iff_ne.mp ‹(op == 10) = false›; have a11 := beq_eq_false_iff_ne.mp ‹(op == 11) = false›; have a12 := beq_eq_false_iff_ne.mp ‹(op == 12) = false›; omega)
      · have hz1 : (r1 == 0) = false := beq_false_of_ne hz
        have hz2 : (r1 != 0) = true := by simpa [bne] using hz
        go_wp2
        all_goals
          go_ret2
          refine ⟨Res_eq ?_, (pw_below_drewN bz.out _)⟩
          first | (simp only [*, cmpop, boolT, cond_true, cond_false]; first | done | rfl | decide) | (exfalso; have a7 := beq_eq_false_iff_ne.mp ‹(op == 7) = false›; have a8 := beq_eq_false_iff_ne.mp ‹(op == 8) = false›; have a9 := beq_eq_false_iff_ne.mp ‹(op == 9) = false›; have a10 := beq_eq_false_iff_ne.mp ‹(op == 10) = false›; have a11 := beq_eq_false_iff_ne.mp ‹(op == 11) = false›; have a12 := beq_eq_false_iff_ne.mp ‹(op == 12) = false›; omega)
end Go.Proofs.YtbodlnoipkommaaDoor.Xc
/- value.Compare: its contract. -/
namespace Go.Proofs.YtbodlnoipkommaaDoor.Xd
open Go.RowKit Go.Proofs.YtbodlnoipkommaaDoor.Q Go.Proofs.YtbodlnoipkommaaDoor.We Go.Proofs.YtbodlnoipkommaaDoor.Wh Go.Proofs.YtbodlnoipkommaaDoor.Wp Go.Proofs.YtbodlnoipkommaaDoor.Pa Go.Proofs.YtbodlnoipkommaaDoor.Pb Go.Proofs.YtbodlnoipkommaaDoor.Xc Go.Proofs.YtbodlnoipkommaaDoorW.PrintWords Go.Proofs.YtbodlnoipkommaaDoorW.PrintLast Go.Proofs.YtbodlnoipkommaaDoorW.PrintMore
def value_Compare.f (op k0 n0 : Int) (s0 : ByteArray) (k1 n1 : Int) (s1 : ByteArray) : Option (Int × Int) := if I64 n0 ∧ I64 n1 then some (compareR op k0 n0 s0 k1 n1 s1) else none
theorem value_Compare.calls (op k0 n0 : Int) (s0 : ByteArray) (k1 n1 : Int) (s1 : ByteArray) (r1 r2 : Int) (w : World) (h : value_Compare.f op k0 n0 s0 k1 n1 s1 = some (r1, r2)) :
    Calls Tryd.prog 9 #[.int .u8 op, .agg #[.int .u8 k0, .int .i64 n0, .string s0], .agg #[.int .u8 k1, .int .i64 n1, .string s1]] w fun e w' => e = .returned (.tuple #[.int .u8 r1, .int .i64 r2]) ∧ Below w.heap.size w w' := by
  unfold value_Compare.f at h
  by_cases hc : I64 n0 ∧ I64 n1
  case neg => rw [if_neg hc] at h; cases h
  rw [if_pos hc] at h
  obtain ⟨h0, h1⟩ := hc
  injection h with h
  unfold compareR at h
  by_cases o7 : op < 7
  · rw [if_pos (Or.inl o7)] at h
    injection h with e1 e2; subst e1 e2
    exact c_lo op k0 n0 s0 k1 n1 s1 w o7
  by_cases o12 : op > 12
  · rw [if_pos (Or.inr (Or.inl o12))] at h
    injection h with e1 e2; subst e1 e2
    exact c_hi op k0 n0 s0 k1 n1 s1 w o7 o12
  cases hr0 : rightB k0 n0 s0
  · rw [if_pos (Or.inr (Or.inr (Or.inl hr0)))] at h
    injection h with e1 e2; subst e1 e2
    exact c_r0 op k0 n0 s0 k1 n1 s1 w o7 o12 hr0
  cases hr1 : rightB k1 n1 s1
  · rw [if_pos (Or.inr (Or.inr (Or.inr hr1)))] at h
    injection h with e1 e2; subst e1 e2
    exact c_r1 op k0 n0 s0 k1 n1 s1 w o7 o12 hr0 hr1
  simp only [o7, o12, hr0, hr1, Bool.true_eq_false, or_self, if_false] at h
  by_cases z0 : k0 = 0
  · rw [if_pos (Or.inl z0)] at h
    injection h with e1 e2; subst e1 e2
    exact c_null0 op k0 n0 s0 k1 n1 s1 w o7 o12 hr0 hr1 (by simpa using z0)
  by_cases z1 : k1 = 0
  · rw [if_pos (Or.inr z1)] at h
    injection h with e1 e2; subst e1 e2
    exact c_null1 op k0 n0 s0 k1 n1 s1 w o7 o12 hr0 hr1 (beq_false_of_ne z0) (by simpa using z1)
  simp only [z0, z1, or_self, if_false] at h
  by_cases e : k0 = k1
  · rw [if_pos e] at h
    injection h with e1 e2; subst e1 e2
    exact c_same op k0 n0 s0 k1 n1 s1 w o7 o12 hr0 hr1 (beq_false_of_ne z0) (beq_false_of_ne z1) (by simp [e])
  rw [if_neg e] at h
  have e' : (k0 != k1) = true := by simpa [bne] using e
  cases q0 : numB k0
  · rw [if_neg (by rw [q0]; simp)] at h
    injection h with e1 e2; subst e1 e2
    exact c_k0 op k0 n0 s0 k1 n1 s1 w o7 o12 hr0 hr1 (beq_false_of_ne z0) (beq_false_of_ne z1) e' q0
  cases q1 : numB k1
  · rw [if_neg (by rw [q1]; simp)] at h
    injection h with e1 e2; subst e1 e2
    exact c_k1 op k0 n0 s0 k1 n1 s1 w o7 o12 hr0 hr1 (beq_false_of_ne z0) (beq_false_of_ne z1) e' q0 q1
  rw [if_pos ⟨q0, q1⟩] at h
  injection h with e1 e2; subst e1 e2
  have hs := ((fix_range k0 n0 h0).2.2 k1 n1 h1)
  have e3 : fixV k0 n0 + -fixV k1 n1 = fixV k0 n0 - fixV k1 n1 := by omega
  have := c_num op k0 n0 s0 k1 n1 s1 _ _ _ _ _ _ _ _ _ w o7 o12 hr0 hr1 (beq_false_of_ne z0) (beq_false_of_ne z1) e' q0 q1 (fixed_fV k0 n0 s0 h0) (fixed_fV k1 n1 s1 h1) (minus_f _ (fix_range k1 n1 h1).1 (fix_range k1 n1 h1).2.1) (plus_f _ _ (fix_range k0 n0 h0).1 (fix_range k1 n1 h1).2.1 hs.2.2) (cmp64_f _ _) (cmpI_range _ _)
  rw [e3, sgn_f _ hs.2.1] at this
  exact this
end Go.Proofs.YtbodlnoipkommaaDoor.Xd
/- math/bits.Div64 by ten thousand. -/
namespace Go.Proofs.YtbodlnoipkommaaDoor.Wl
open Go.RowKit Go.Proofs.YtbodlnoipkommaaDoor.Wf Go.Proofs.YtbodlnoipkommaaDoor.We Go.Proofs.YtbodlnoipkommaaDoorW.PrintWords Go.Proofs.YtbodlnoipkommaaDoorW.PrintLast Go.Proofs.YtbodlnoipkommaaDoorW.PrintMore
set_option maxRecDepth 100000 in
set_option maxHeartbeats 2000000 in
theorem div0 (b : Int) (h0 : 0 ≤ b) (h1 : b < 18446744073709551616) (w : World) :
    Calls Tryd.prog 62 #[.int .u64 0, .int .u64 b, .int .u64 10000] w fun e w' => e = .returned (.tuple #[.int .u64 (b / 10000), .int .u64 (b % 10000)]) ∧ Drawn0 w w' := by
  go_enter Tryd.func62, Tryd.ntmps62
  go_wp2_with fail
  go_quiet (fail)
  go_wp2
  go_ret2
  exact ⟨rfl, nq, rfl⟩
theorem lz (w : World) : Calls Tryd.prog 86 #[.int .u64 10000] w fun e w' => e = .returned (.int .i64 50) ∧ w' = w := by
  have h := Tryd.bits_LeadingZeros64 10000 w (by decide) (by decide)
  rwa [show (64 - (Lib.bitLen (10000 : Int).toNat : Int)) = 50 by decide] at h
theorem or_disjoint (a b : Nat) (ha : a < 10000) (hb : b < 18446744073709551616) :
    bits .or .u64 ((a : Int) * 1125899906842624) ((b : Int) / 16384) = ((a * 1125899906842624 + b / 16384 : Nat) : Int) := by
  have h1 : b / 16384 < 2 ^ 50 := by omega
  have e : (a * 1125899906842624) ||| (b / 16384) = a * 1125899906842624 + b / 16384 := by
    have := Nat.two_pow_add_eq_or_of_lt h1 a
    rw [Nat.mul_comm] at this
    exact this.symm
  have h := u64_or_nat (a * 1125899906842624) (b / 16384) (by omega) (by omega)
  rw [e] at h
  rw [← h]
  congr 1
  all_goals omega
theorem and_mask (l : Nat) (hl : l < 18446744073709551616) : bits .and .u64 (l : Int) 4294967295 = ((l % 4294967296 : Nat) : Int) := by
  have h := u64_and_nat l 4294967295 hl (by omega)
  have e : l &&& 4294967295 = l % 4294967296 := Nat.and_two_pow_sub_one_eq_mod l 32
  rw [e] at h
  exact h
theorem w1 (X : Int) (h0 : 0 ≤ X) (h1 : X < 11258999068426240000) : IntKind.u64.wrap (X - X / 2621440000 * 2621440000) = X % 2621440000 := by rw [IntKind.wrap_u64]; omega
set_option maxRecDepth 100000 in
set_option maxHeartbeats 2000000 in
theorem div1 (a b X L U R S : Int) (ha0 : 1 ≤ a) (ha : a < 10000) (hb0 : 0 ≤ b) (h1 : b < 18446744073709551616) (hX : bits .or .u64 (a * 1125899906842624) (b / 16384) = X) (hL : IntKind.u64.wrap (b * 1125899906842624) = L)
    (hU : bits .and .u64 L 4294967295 = U) (hA : bits .and .u64 11258999068426240000 4294967295 = 0)
    (bX0 : 0 ≤ X) (bX : X < 11258999068426240000) (bL0 : 0 ≤ L) (bL : L < 18446744073709551616) (bU0 : 0 ≤ U) (bU : U < 4294967296)
    (hR : IntKind.u64.wrap (IntKind.u64.wrap (IntKind.u64.wrap (X * 4294967296) + L / 4294967296) - IntKind.u64.wrap (X / 2621440000 * 11258999068426240000)) = R) (bR0 : 0 ≤ R) (bR : R < 11258999068426240000)
    (hS : IntKind.u64.wrap (IntKind.u64.wrap (IntKind.u64.wrap (R * 4294967296) + U) - IntKind.u64.wrap (R / 2621440000 * 11258999068426240000)) = S) (bS0 : 0 ≤ S) (bS : S < 11258999068426240000) (w : World) :
    Calls Tryd.prog 62 #[.int .u64 a, .int .u64 b, .int .u64 10000] w fun e w' => e = .returned (.tuple #[.int .u64 (X / 2621440000 * 4294967296 + R / 2621440000), .int .u64 (S / 1125899906842624)]) ∧ Drawn0 w w' := by
  have e1 : ¬ (a = 0) := by omega
  have e2 : ¬ (10000 ≤ a) := by omega
  have hw1 := w1 X bX0 bX
  have hw2 := w1 R bR0 bR
  go_enter Tryd.func62, Tryd.ntmps62
  go_wp2_with fail
  refine (lz w).mono ?_
  rintro e w' ⟨rfl, rfl⟩
  go_wp2_with fail
  have e3 : ¬ (4294967296 ≤ X / 2621440000) := by omega
  have k1 : 0 ≤ X / 2621440000 := by omega
  have k3 : 0 ≤ X % 2621440000 := by omega
  have k4 : X % 2621440000 < 2621440000 := by omega
  have k5 : 0 ≤ L / 4294967296 := by omega
  have k6 : L / 4294967296 < 4294967296 := by omega
  have k7 : ¬ (4294967296 * (X % 2621440000) + L / 4294967296 < 0) := by omega
  have k8 : X / 2621440000 < 4294967296 := by omega
  have d3 : ¬ (4294967296 ≤ R / 2621440000) := by omega
  have d1 : 0 ≤ R / 2621440000 := by omega
  have d3' : 0 ≤ R % 2621440000 := by omega
  have d4 : R % 2621440000 < 2621440000 := by omega
  have d7 : ¬ (4294967296 * (R % 2621440000) + U < 0) := by omega
  have d8 : R / 2621440000 < 4294967296 := by omega
  have d9 : X / 2621440000 * 4294967296 + R / 2621440000 < 18446744073709551616 := by omega
  refine wp_loop_rounds 1 ?_
  rw [rounds_succ]
  go_wp2_with fail
  refine wp_loop_rounds 1 ?_
  rw [rounds_succ]
  go_wp2_with fail
  go_ret2
  exact ⟨rfl, 0, (World.drewN_zero _).symm⟩
theorem wR (X l : Int) (h0 : 0 ≤ X) (h1 : X < 11258999068426240000) (l0 : 0 ≤ l) (l1 : l < 4294967296) :
    IntKind.u64.wrap (IntKind.u64.wrap (IntKind.u64.wrap (X * 4294967296) + l) - IntKind.u64.wrap (X / 2621440000 * 11258999068426240000)) = X % 2621440000 * 4294967296 + l := by
  simp only [IntKind.wrap_u64]
  rw [← Int.sub_emod]
  rw [Int.sub_emod, Int.emod_add_emod, ← Int.sub_emod]
  have e : X * 4294967296 + l - X / 2621440000 * 11258999068426240000 = X % 2621440000 * 4294967296 + l := by
    have := Int.emod_def X 2621440000
    rw [this]; omega
  rw [e, Int.emod_eq_of_lt]
  · have : 0 ≤ X % 2621440000 := by omega
    omega
  · have : X % 2621440000 < 2621440000 := by omega
    omega
theorem last (N Q S : Int) (h : N * 1125899906842624 = 11258999068426240000 * Q + S) (h0 : 0 ≤ S) (h1 : S < 11258999068426240000) : N / 10000 = Q ∧ S / 1125899906842624 = N % 10000 := by
  have e : S = 1125899906842624 * (N - 10000 * Q) := by omega
  have e1 : 0 ≤ N - 10000 * Q := by omega
  have e2 : N - 10000 * Q < 10000 := by omega
  have e3 : S / 1125899906842624 = N - 10000 * Q := by rw [e]; exact Int.mul_ediv_cancel_left _ (by decide)
  rw [e3]
  omega
theorem steps (a b X L U R S : Int) (hX : X = a * 1125899906842624 + b / 16384) (hL : L = b * 1125899906842624 % 18446744073709551616) (hU : U = L % 4294967296)
    (hR : R = X % 2621440000 * 4294967296 + L / 4294967296) (hS : S = R % 2621440000 * 4294967296 + U) :
    (a * 18446744073709551616 + b) * 1125899906842624 = 11258999068426240000 * (X / 2621440000 * 4294967296 + R / 2621440000) + S := by
  have f1 : b * 1125899906842624 = b / 16384 * 18446744073709551616 + L := by omega
  have f2 : (a * 18446744073709551616 + b) * 1125899906842624 = X * 18446744073709551616 + L := by rw [hX]; omega
  have f3 : L = 4294967296 * (L / 4294967296) + U := by omega
  have f4 : X = 2621440000 * (X / 2621440000) + X % 2621440000 := by omega
  have f5 : R = 2621440000 * (R / 2621440000) + R % 2621440000 := by omega
  clear hX hL hU f1
  generalize X / 2621440000 = q1 at *
  generalize X % 2621440000 = x at *
  generalize R / 2621440000 = q0 at *
  generalize R % 2621440000 = r at *
  generalize L / 4294967296 = l at *
  omega
def bits_Div64.f (a b y : Int) : Option (Int × Int) :=
  if (0 ≤ a ∧ a < 10000) ∧ Word b ∧ y = 10000 then some ((a * 18446744073709551616 + b) / 10000, (a * 18446744073709551616 + b) % 10000) else none
theorem bits_Div64.calls (a b y : Int) (r1 r2 : Int) (w : World) (h : bits_Div64.f a b y = some (r1, r2)) :
    Calls Tryd.prog 62 #[.int .u64 a, .int .u64 b, .int .u64 y] w fun e w' => e = .returned (.tuple #[.int .u64 r1, .int .u64 r2]) ∧ Drawn0 w w' := by
  unfold bits_Div64.f at h
  by_cases hc : (0 ≤ a ∧ a < 10000) ∧ Word b ∧ y = 10000
  case neg => rw [if_neg hc] at h; cases h
  rw [if_pos hc] at h
  injection h with h
  injection h with e1 e2
  subst e1 e2
  obtain ⟨⟨a0, a1⟩, ⟨b0, b1⟩, rfl⟩ := hc
  by_cases hz : a = 0
  · subst hz
    have := div0 b b0 b1 w
    rw [Int.zero_mul, Int.zero_add]
    exact this
  · have hO : bits .or .u64 (a * 1125899906842624) (b / 16384) = a * 1125899906842624 + b / 16384 := by
      obtain ⟨x, rfl⟩ := Int.eq_ofNat_of_zero_le a0
      obtain ⟨z, rfl⟩ := Int.eq_ofNat_of_zero_le b0
      rw [or_disjoint x z (by omega) (by omega)]
      omega
    have l0 : 0 ≤ b * 1125899906842624 % 18446744073709551616 := Int.emod_nonneg _ (by decide)
    have l1 : b * 1125899906842624 % 18446744073709551616 < 18446744073709551616 := Int.emod_lt_of_pos _ (by decide)
    have hU : bits .and .u64 (b * 1125899906842624 % 18446744073709551616) 4294967295 = b * 1125899906842624 % 18446744073709551616 % 4294967296 := by
      generalize b * 1125899906842624 % 18446744073709551616 = L at l0 l1
      obtain ⟨x, rfl⟩ := Int.eq_ofNat_of_zero_le l0
      rw [and_mask x (by omega)]
      omega
    generalize hL : b * 1125899906842624 % 18446744073709551616 = L at l0 l1 hU
    generalize hV : L % 4294967296 = U at hU
    generalize hX : a * 1125899906842624 + b / 16384 = X at hO
    have x0 : 0 ≤ X := by omega
    have x1 : X < 11258999068426240000 := by omega
    have u0 : 0 ≤ U := by omega
    have u1 : U < 4294967296 := by omega
    have R0 := wR X (L / 4294967296) x0 x1 (by omega) (by omega)
    generalize hR : X % 2621440000 * 4294967296 + L / 4294967296 = R at R0
    have r0 : 0 ≤ R := by omega
    have r1 : R < 11258999068426240000 := by omega
    have S0 := wR R U r0 r1 u0 u1
    generalize hS : R % 2621440000 * 4294967296 + U = S at S0
    have s0 : 0 ≤ S := by omega
    have s1 : S < 11258999068426240000 := by omega
    have hw : IntKind.u64.wrap (b * 1125899906842624) = L := by rw [IntKind.wrap_u64, hL]
    have st := steps a b X L U R S hX.symm hL.symm hV.symm hR.symm hS.symm
    obtain ⟨g1, g2⟩ := last _ _ S st s0 s1
    rw [g1, ← g2]
    exact div1 a b X L U R S (by omega) a1 b0 b1 hO hw hU (by decide) x0 x1 l0 l1 u0 u1 R0 r0 r1 S0 s0 s1 w
end Go.Proofs.YtbodlnoipkommaaDoor.Wl

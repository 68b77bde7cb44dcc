/- Merged out of this session's texts: Xc, Xd, Qxf49, Qxf50, Pe, Xa, Qxf4, Pf, Qxf70, Qxf33 -/
import Derived.Test.YtbodlnoipkommaaDoorZt5
import Derived.Test.YtbodlnoipkommaaDoorZt4
import Derived.Test.YtbodlnoipkommaaDoorZt3
import Derived.Deep.RegionHeld3
import Derived.Deep.DeepCutAuto
import Derived.Test.YtbodlnoipkommaaDoorZt6
import Derived.Lib.SmallJoins
import Derived.Test.YtbodlnoipkommaaDoorZt7
set_option linter.unusedVariables false
set_option linter.unusedSimpArgs false
namespace Go.Proofs.YtbodlnoipkommaaDoor.Xc
open Go.RowKit Go.Proofs.YtbodlnoipkommaaDoor.Q Go.Proofs.YtbodlnoipkommaaDoor.We Go.Proofs.YtbodlnoipkommaaDoor.Wh Go.Proofs.YtbodlnoipkommaaDoor.Wi Go.Proofs.YtbodlnoipkommaaDoor.Wj Go.Proofs.YtbodlnoipkommaaDoor.Wm Go.Proofs.YtbodlnoipkommaaDoor.Wn Go.Proofs.YtbodlnoipkommaaDoor.Wp Go.Proofs.YtbodlnoipkommaaDoor.Pa Go.Proofs.YtbodlnoipkommaaDoor.Pb Go.Proofs.YtbodlnoipkommaaDoorW.PrintWords Go.Proofs.YtbodlnoipkommaaDoorW.PrintLast Go.Proofs.YtbodlnoipkommaaDoorW.PrintMore
abbrev Vl (k n : Int) (s : ByteArray) : Value := .agg #[.int .u8 k, .int .i64 n, .string s]
abbrev Res (a b : Int) : Ending := .returned (.tuple #[.int .u8 a, .int .i64 b])
theorem lt_alloc {W w' : World} {o : Obj} (hb : Below (W.alloc o).heap.size (W.alloc o) w') : W.heap.size < w'.heap.size := by have := hb.size; simp at this; omega
theorem lt_allocd {W w' : World} {o : Obj} (hb : Below (W.alloc o).drew.heap.size (W.alloc o).drew w') : W.heap.size < w'.heap.size := by have := hb.size; simp at this; omega
theorem lt_keep {W w' : World} {b : Nat} (hb : Below W.heap.size W w') (h : b < W.heap.size) : b < w'.heap.size := Nat.lt_of_lt_of_le h hb.size
theorem Res_eq {a b c : Int} (h : a = b) : Res a c = Res b c := by rw [h]
set_option maxRecDepth 100000 in
set_option maxHeartbeats 4000000 in
theorem c_lo (op k0 n0 : Int) (s0 : ByteArray) (k1 n1 : Int) (s1 : ByteArray) (w : World) (h : op < 7) :
    Calls Tryd.prog 9 #[.int .u8 op, Vl k0 n0 s0, Vl k1 n1 s1] w fun e w' => e = Res 0 2 ∧ Below w.heap.size w w' := by
  go_enter Tryd.func9, Tryd.ntmps9
  go_wp2_with fail
  go_ret2
  exact ⟨rfl, below_alloc (below_alloc (Below.refl _ _) _) _⟩
set_option maxRecDepth 100000 in
set_option maxHeartbeats 4000000 in
theorem c_hi (op k0 n0 : Int) (s0 : ByteArray) (k1 n1 : Int) (s1 : ByteArray) (w : World) (h' : ¬ op < 7) (h : op > 12) :
    Calls Tryd.prog 9 #[.int .u8 op, Vl k0 n0 s0, Vl k1 n1 s1] w fun e w' => e = Res 0 2 ∧ Below w.heap.size w w' := by
  go_enter Tryd.func9, Tryd.ntmps9
  go_wp2_with fail
  go_ret2
  exact ⟨rfl, below_alloc (below_alloc (Below.refl _ _) _) _⟩
set_option maxRecDepth 100000 in
set_option maxHeartbeats 4000000 in
theorem c_r0 (op k0 n0 : Int) (s0 : ByteArray) (k1 n1 : Int) (s1 : ByteArray) (w : World) (o7 : ¬ op < 7) (o12 : ¬ op > 12) (hr0 : rightB k0 n0 s0 = false) :
    Calls Tryd.prog 9 #[.int .u8 op, Vl k0 n0 s0, Vl k1 n1 s1] w fun e w' => e = Res 0 2 ∧ Below w.heap.size w w' := by
  have N := Aside0.mk (value_Right.calls 1 k0 n0 s0 (rightB k0 n0 s0) · (right_f 0 k0 n0 s0))
  rw [hr0] at N
  clear hr0
  go_enter Tryd.func9, Tryd.ntmps9
  go_wp2_with fail
  refine (N.out _).mono ?_
  rintro e w1 ⟨rfl, hb1⟩
  obtain ⟨c10, f10, l10⟩ := bcells hb1 (w.heap.size) (by first | assumption | (simp; done) | (simp; omega) | omega)
  obtain ⟨c11, f11, l11⟩ := bcells hb1 (w.heap.size + 1) (by first | assumption | (simp; done) | (simp; omega) | omega)
  replace hb1 := Aside0.mk hb1
  go_wp2_with fail
  go_ret2
  exact ⟨rfl, below_step (below_alloc (below_alloc (Below.refl _ _) _) _) hb1.out⟩
set_option maxRecDepth 100000 in
set_option maxHeartbeats 4000000 in
theorem c_r1 (op k0 n0 : Int) (s0 : ByteArray) (k1 n1 : Int) (s1 : ByteArray) (w : World) (o7 : ¬ op < 7) (o12 : ¬ op > 12) (hr0 : rightB k0 n0 s0 = true) (hr1 : rightB k1 n1 s1 = false) :
    Calls Tryd.prog 9 #[.int .u8 op, Vl k0 n0 s0, Vl k1 n1 s1] w fun e w' => e = Res 0 2 ∧ Below w.heap.size w w' := by
  have N := Aside0.mk (value_Right.calls 1 k0 n0 s0 (rightB k0 n0 s0) · (right_f 0 k0 n0 s0))
  rw [hr0] at N
  clear hr0
  have M := Aside0.mk (value_Right.calls 1 k1 n1 s1 (rightB k1 n1 s1) · (right_f 0 k1 n1 s1))
  rw [hr1] at M
  clear hr1
  go_enter Tryd.func9, Tryd.ntmps9
  go_wp2_with fail
  refine (N.out _).mono ?_
  rintro e w1 ⟨rfl, hb1⟩
  obtain ⟨c10, f10, l10⟩ := bcells hb1 (w.heap.size) (by first | assumption | (simp; done) | (simp; omega) | omega)
  obtain ⟨c11, f11, l11⟩ := bcells hb1 (w.heap.size + 1) (by first | assumption | (simp; done) | (simp; omega) | omega)
  replace hb1 := Aside0.mk hb1
  go_wp2_with fail
  refine (M.out _).mono ?_
  rintro e w2 ⟨rfl, hb2⟩
  obtain ⟨c20, f20, l20⟩ := bcells hb2 (w.heap.size) (by first | assumption | (simp; done) | (simp; omega) | omega)
  obtain ⟨c21, f21, l21⟩ := bcells hb2 (w.heap.size + 1) (by first | assumption | (simp; done) | (simp; omega) | omega)
  replace hb2 := Aside0.mk hb2
  go_wp2_with fail
  go_ret2
  exact ⟨rfl, below_step (below_step (below_alloc (below_alloc (Below.refl _ _) _) _) hb1.out) hb2.out⟩
set_option maxRecDepth 100000 in
set_option maxHeartbeats 4000000 in
theorem c_null0 (op k0 n0 : Int) (s0 : ByteArray) (k1 n1 : Int) (s1 : ByteArray) (w : World) (o7 : ¬ op < 7) (o12 : ¬ op > 12) (hr0 : rightB k0 n0 s0 = true) (hr1 : rightB k1 n1 s1 = true) (z0 : (k0 == 0) = true) :
    Calls Tryd.prog 9 #[.int .u8 op, Vl k0 n0 s0, Vl k1 n1 s1] w fun e w' => e = Res 2 0 ∧ Below w.heap.size w w' := by
  have N := Aside0.mk (value_Right.calls 1 k0 n0 s0 (rightB k0 n0 s0) · (right_f 0 k0 n0 s0))
  rw [hr0] at N
  clear hr0
  have M := Aside0.mk (value_Right.calls 1 k1 n1 s1 (rightB k1 n1 s1) · (right_f 0 k1 n1 s1))
  rw [hr1] at M
  clear hr1
  obtain rfl : k0 = 0 := by simpa using z0
  clear z0
  go_enter Tryd.func9, Tryd.ntmps9
  go_wp2_with fail
  refine (N.out _).mono ?_
  rintro e w1 ⟨rfl, hb1⟩
  obtain ⟨c10, f10, l10⟩ := bcells hb1 (w.heap.size) (by first | assumption | (simp; done) | (simp; omega) | omega)
  obtain ⟨c11, f11, l11⟩ := bcells hb1 (w.heap.size + 1) (by first | assumption | (simp; done) | (simp; omega) | omega)
  replace hb1 := Aside0.mk hb1
  go_wp2_with fail
  refine (M.out _).mono ?_
  rintro e w2 ⟨rfl, hb2⟩
  obtain ⟨c20, f20, l20⟩ := bcells hb2 (w.heap.size) (by first | assumption | (simp; done) | (simp; omega) | omega)
  obtain ⟨c21, f21, l21⟩ := bcells hb2 (w.heap.size + 1) (by first | assumption | (simp; done) | (simp; omega) | omega)
  replace hb2 := Aside0.mk hb2
  go_wp2_with fail
  go_ret2
  exact ⟨rfl, below_step (below_step (below_alloc (below_alloc (Below.refl _ _) _) _) hb1.out) hb2.out⟩
set_option maxRecDepth 100000 in
set_option maxHeartbeats 4000000 in
theorem c_null1 (op k0 n0 : Int) (s0 : ByteArray) (k1 n1 : Int) (s1 : ByteArray) (w : World) (o7 : ¬ op < 7) (o12 : ¬ op > 12) (hr0 : rightB k0 n0 s0 = true) (hr1 : rightB k1 n1 s1 = true) (z0 : (k0 == 0) = false) (z1 : (k1 == 0) = true) :
    Calls Tryd.prog 9 #[.int .u8 op, Vl k0 n0 s0, Vl k1 n1 s1] w fun e w' => e = Res 2 0 ∧ Below w.heap.size w w' := by
  have N := Aside0.mk (value_Right.calls 1 k0 n0 s0 (rightB k0 n0 s0) · (right_f 0 k0 n0 s0))
  rw [hr0] at N
  clear hr0
  have M := Aside0.mk (value_Right.calls 1 k1 n1 s1 (rightB k1 n1 s1) · (right_f 0 k1 n1 s1))
  rw [hr1] at M
  clear hr1
  obtain rfl : k1 = 0 := by simpa using z1
  clear z1
  go_enter Tryd.func9, Tryd.ntmps9
  go_wp2_with fail
  refine (N.out _).mono ?_
  rintro e w1 ⟨rfl, hb1⟩
  obtain ⟨c10, f10, l10⟩ := bcells hb1 (w.heap.size) (by first | assumption | (simp; done) | (simp; omega) | omega)
  obtain ⟨c11, f11, l11⟩ := bcells hb1 (w.heap.size + 1) (by first | assumption | (simp; done) | (simp; omega) | omega)
  replace hb1 := Aside0.mk hb1
  go_wp2_with fail
  refine (M.out _).mono ?_
  rintro e w2 ⟨rfl, hb2⟩
  obtain ⟨c20, f20, l20⟩ := bcells hb2 (w.heap.size) (by first | assumption | (simp; done) | (simp; omega) | omega)
  obtain ⟨c21, f21, l21⟩ := bcells hb2 (w.heap.size + 1) (by first | assumption | (simp; done) | (simp; omega) | omega)
  replace hb2 := Aside0.mk hb2
  go_wp2_with fail
  go_ret2
  exact ⟨rfl, below_step (below_step (below_alloc (below_alloc (Below.refl _ _) _) _) hb1.out) hb2.out⟩
set_option maxRecDepth 100000 in
set_option maxHeartbeats 4000000 in
theorem c_same (op k0 n0 : Int) (s0 : ByteArray) (k1 n1 : Int) (s1 : ByteArray) (w : World) (o7 : ¬ op < 7) (o12 : ¬ op > 12) (hr0 : rightB k0 n0 s0 = true) (hr1 : rightB k1 n1 s1 = true) (z0 : (k0 == 0) = false) (z1 : (k1 == 0) = false) (e : (k0 != k1) = false) :
    Calls Tryd.prog 9 #[.int .u8 op, Vl k0 n0 s0, Vl k1 n1 s1] w fun e w' => e = Res (boolT (cmpop op (orderR k0 n0 s0 k1 n1 s1))) 0 ∧ Below w.heap.size w w' := by
  have O := Aside0.mk (value_Order.calls k0 n0 s0 k1 n1 s1 _ · (order_f k0 n0 s0 k1 n1 s1))
  have hr := order_range k0 n0 s0 k1 n1 s1
  generalize orderR k0 n0 s0 k1 n1 s1 = c at *
  have N := Aside0.mk (value_Right.calls 1 k0 n0 s0 (rightB k0 n0 s0) · (right_f 0 k0 n0 s0))
  rw [hr0] at N
  clear hr0
  have M := Aside0.mk (value_Right.calls 1 k1 n1 s1 (rightB k1 n1 s1) · (right_f 0 k1 n1 s1))
  rw [hr1] at M
  clear hr1
  rcases hr with rfl | rfl | rfl
  all_goals
    go_enter Tryd.func9, Tryd.ntmps9
    go_wp2_with fail
    refine (N.out _).mono ?_
    rintro e w1 ⟨rfl, hb1⟩
    obtain ⟨c10, f10, l10⟩ := bcells hb1 (w.heap.size) (by first | assumption | (simp; done) | (simp; omega) | omega)
    obtain ⟨c11, f11, l11⟩ := bcells hb1 (w.heap.size + 1) (by first | assumption | (simp; done) | (simp; omega) | omega)
    replace hb1 := Aside0.mk hb1
    go_wp2_with fail
    refine (M.out _).mono ?_
    rintro e w2 ⟨rfl, hb2⟩
    obtain ⟨c20, f20, l20⟩ := bcells hb2 (w.heap.size) (by first | assumption | (simp; done) | (simp; omega) | omega)
    obtain ⟨c21, f21, l21⟩ := bcells hb2 (w.heap.size + 1) (by first | assumption | (simp; done) | (simp; omega) | omega)
    replace hb2 := Aside0.mk hb2
    go_wp2_with fail
    refine (O.out _).mono ?_
    rintro e w3 ⟨rfl, hb3⟩
    obtain ⟨c30, f30, l30⟩ := bcells hb3 (w.heap.size) (by first | assumption | (simp; done) | (simp; omega) | omega)
    obtain ⟨c31, f31, l31⟩ := bcells hb3 (w.heap.size + 1) (by first | assumption | (simp; done) | (simp; omega) | omega)
    replace hb3 := Aside0.mk hb3
    go_wp2_with fail
    all_goals
      go_ret2
      refine ⟨Res_eq ?_, below_step (below_step (below_step (below_alloc (below_alloc (Below.refl _ _) _) _) hb1.out) hb2.out) hb3.out⟩
      first | (simp only [*, cmpop, boolT, cond_true, cond_false]; first | done | rfl | decide) | (exfalso; have a7 := beq_eq_false_iff_ne.mp ‹(op == 7) = false›; have a8 := beq_eq_false_iff_ne.mp ‹(op == 8) = false›; have a9 := beq_eq_false_iff_ne.mp ‹(op == 9) = false›; have a10 := beq_eq_false_iff_ne.mp ‹(op == 10) = false›; have a11 := beq_eq_false_iff_ne.mp ‹(op == 11) = false›; have a12 := beq_eq_false_iff_ne.mp ‹(op == 12) = false›; omega)
set_option maxRecDepth 100000 in
set_option maxHeartbeats 4000000 in
theorem c_k0 (op k0 n0 : Int) (s0 : ByteArray) (k1 n1 : Int) (s1 : ByteArray) (w : World) (o7 : ¬ op < 7) (o12 : ¬ op > 12) (hr0 : rightB k0 n0 s0 = true) (hr1 : rightB k1 n1 s1 = true) (z0 : (k0 == 0) = false) (z1 : (k1 == 0) = false) (e : (k0 != k1) = true) (q0 : numB k0 = false) :
    Calls Tryd.prog 9 #[.int .u8 op, Vl k0 n0 s0, Vl k1 n1 s1] w fun e w' => e = Res 0 270 ∧ Below w.heap.size w w' := by
  have O := Aside0.mk (value_Order.calls k0 n0 s0 k1 n1 s1 _ · (order_f k0 n0 s0 k1 n1 s1))
  generalize orderR k0 n0 s0 k1 n1 s1 = c at *
  have N := Aside0.mk (value_Right.calls 1 k0 n0 s0 (rightB k0 n0 s0) · (right_f 0 k0 n0 s0))
  rw [hr0] at N
  clear hr0
  have M := Aside0.mk (value_Right.calls 1 k1 n1 s1 (rightB k1 n1 s1) · (right_f 0 k1 n1 s1))
  rw [hr1] at M
  clear hr1
  have A0 := Aside0.mk (value_number.calls k0 n0 s0 (numB k0) · (number_f k0 n0 s0))
  rw [q0] at A0
  clear q0
  go_enter Tryd.func9, Tryd.ntmps9
  go_wp2_with fail
  refine (N.out _).mono ?_
  rintro e w1 ⟨rfl, hb1⟩
  obtain ⟨c10, f10, l10⟩ := bcells hb1 (w.heap.size) (by first | assumption | (simp; done) | (simp; omega) | omega)
  obtain ⟨c11, f11, l11⟩ := bcells hb1 (w.heap.size + 1) (by first | assumption | (simp; done) | (simp; omega) | omega)
  replace hb1 := Aside0.mk hb1
  go_wp2_with fail
  refine (M.out _).mono ?_
  rintro e w2 ⟨rfl, hb2⟩
  obtain ⟨c20, f20, l20⟩ := bcells hb2 (w.heap.size) (by first | assumption | (simp; done) | (simp; omega) | omega)
  obtain ⟨c21, f21, l21⟩ := bcells hb2 (w.heap.size + 1) (by first | assumption | (simp; done) | (simp; omega) | omega)
  replace hb2 := Aside0.mk hb2
  go_wp2_with fail
  refine (O.out _).mono ?_
  rintro e w3 ⟨rfl, hb3⟩
  obtain ⟨c30, f30, l30⟩ := bcells hb3 (w.heap.size) (by first | assumption | (simp; done) | (simp; omega) | omega)
  obtain ⟨c31, f31, l31⟩ := bcells hb3 (w.heap.size + 1) (by first | assumption | (simp; done) | (simp; omega) | omega)
  replace hb3 := Aside0.mk hb3
  go_wp2_with fail
  refine (A0.out _).mono ?_
  rintro e w4 ⟨rfl, hb4⟩
  obtain ⟨c40, f40, l40⟩ := bcells hb4 (w.heap.size) (by first | assumption | (simp; done) | (simp; omega) | omega)
  obtain ⟨c41, f41, l41⟩ := bcells hb4 (w.heap.size + 1) (by first | assumption | (simp; done) | (simp; omega) | omega)
  replace hb4 := Aside0.mk hb4
  go_wp2_with fail
  go_ret2
  exact ⟨rfl, below_step (below_step (below_step (below_step (below_alloc (below_alloc (Below.refl _ _) _) _) hb1.out) hb2.out) hb3.out) hb4.out⟩
set_option maxRecDepth 100000 in
set_option maxHeartbeats 4000000 in
theorem c_k1 (op k0 n0 : Int) (s0 : ByteArray) (k1 n1 : Int) (s1 : ByteArray) (w : World) (o7 : ¬ op < 7) (o12 : ¬ op > 12) (hr0 : rightB k0 n0 s0 = true) (hr1 : rightB k1 n1 s1 = true) (z0 : (k0 == 0) = false) (z1 : (k1 == 0) = false) (e : (k0 != k1) = true) (q0 : numB k0 = true) (q1 : numB k1 = false) :
    Calls Tryd.prog 9 #[.int .u8 op, Vl k0 n0 s0, Vl k1 n1 s1] w fun e w' => e = Res 0 270 ∧ Below w.heap.size w w' := by
  have O := Aside0.mk (value_Order.calls k0 n0 s0 k1 n1 s1 _ · (order_f k0 n0 s0 k1 n1 s1))
  generalize orderR k0 n0 s0 k1 n1 s1 = c at *
  have N := Aside0.mk (value_Right.calls 1 k0 n0 s0 (rightB k0 n0 s0) · (right_f 0 k0 n0 s0))
  rw [hr0] at N
  clear hr0
  have M := Aside0.mk (value_Right.calls 1 k1 n1 s1 (rightB k1 n1 s1) · (right_f 0 k1 n1 s1))
  rw [hr1] at M
  clear hr1
  have A0 := Aside0.mk (value_number.calls k0 n0 s0 (numB k0) · (number_f k0 n0 s0))
  rw [q0] at A0
  clear q0
  have A1 := Aside0.mk (value_number.calls k1 n1 s1 (numB k1) · (number_f k1 n1 s1))
  rw [q1] at A1
  clear q1
  go_enter Tryd.func9, Tryd.ntmps9
  go_wp2_with fail
  refine (N.out _).mono ?_
  rintro e w1 ⟨rfl, hb1⟩
  obtain ⟨c10, f10, l10⟩ := bcells hb1 (w.heap.size) (by first | assumption | (simp; done) | (simp; omega) | omega)
  obtain ⟨c11, f11, l11⟩ := bcells hb1 (w.heap.size + 1) (by first | assumption | (simp; done) | (simp; omega) | omega)
  replace hb1 := Aside0.mk hb1
  go_wp2_with fail
  refine (M.out _).mono ?_
  rintro e w2 ⟨rfl, hb2⟩
  obtain ⟨c20, f20, l20⟩ := bcells hb2 (w.heap.size) (by first | assumption | (simp; done) | (simp; omega) | omega)
  obtain ⟨c21, f21, l21⟩ := bcells hb2 (w.heap.size + 1) (by first | assumption | (simp; done) | (simp; omega) | omega)
  replace hb2 := Aside0.mk hb2
  go_wp2_with fail
  refine (O.out _).mono ?_
  rintro e w3 ⟨rfl, hb3⟩
  obtain ⟨c30, f30, l30⟩ := bcells hb3 (w.heap.size) (by first | assumption | (simp; done) | (simp; omega) | omega)
  obtain ⟨c31, f31, l31⟩ := bcells hb3 (w.heap.size + 1) (by first | assumption | (simp; done) | (simp; omega) | omega)
  replace hb3 := Aside0.mk hb3
  go_wp2_with fail
  refine (A0.out _).mono ?_
  rintro e w4 ⟨rfl, hb4⟩
  obtain ⟨c40, f40, l40⟩ := bcells hb4 (w.heap.size) (by first | assumption | (simp; done) | (simp; omega) | omega)
  obtain ⟨c41, f41, l41⟩ := bcells hb4 (w.heap.size + 1) (by first | assumption | (simp; done) | (simp; omega) | omega)
  replace hb4 := Aside0.mk hb4
  go_wp2_with fail
  refine (A1.out _).mono ?_
  rintro e w5 ⟨rfl, hb5⟩
  obtain ⟨c50, f50, l50⟩ := bcells hb5 (w.heap.size) (by first | assumption | (simp; done) | (simp; omega) | omega)
  obtain ⟨c51, f51, l51⟩ := bcells hb5 (w.heap.size + 1) (by first | assumption | (simp; done) | (simp; omega) | omega)
  replace hb5 := Aside0.mk hb5
  go_wp2_with fail
  go_ret2
  exact ⟨rfl, below_step (below_step (below_step (below_step (below_step (below_alloc (below_alloc (Below.refl _ _) _) _) hb1.out) hb2.out) hb3.out) hb4.out) hb5.out⟩
set_option maxRecDepth 100000 in
set_option maxHeartbeats 4000000 in
theorem c_num (op k0 n0 : Int) (s0 : ByteArray) (k1 n1 : Int) (s1 : ByteArray) (x0 x1 y0 y1 v0 v1 r0 r1 t : Int) (w : World) (o7 : ¬ op < 7) (o12 : ¬ op > 12) (hr0 : rightB k0 n0 s0 = true) (hr1 : rightB k1 n1 s1 = true) (z0 : (k0 == 0) = false) (z1 : (k1 == 0) = false) (e : (k0 != k1) = true) (q0 : numB k0 = true) (q1 : numB k1 = true)
    (hx : value_fixed.f k0 n0 s0 = some (x0, x1)) (hy : value_fixed.f k1 n1 s1 = some (y0, y1)) (ht : value_wide_minus.f y0 y1 = some (v0, v1)) (hp : value_wide_plus.f x0 x1 v0 v1 = some (r0, r1)) (hk : cmp_Compare_int64.f r0 0 = some t) (tr : t = -1 ∨ t = 0 ∨ t = 1) :
    Calls Tryd.prog 9 #[.int .u8 op, Vl k0 n0 s0, Vl k1 n1 s1] w fun e w' => e = Res (boolT (cmpop op (if t = 0 then (if r1 = 0 then t else 1) else t))) 0 ∧ Below w.heap.size w w' := by
  have F0 := Aside0.mk (value_fixed.calls k0 n0 s0 x0 x1 · hx)
  have F1 := Aside0.mk (value_fixed.calls k1 n1 s1 y0 y1 · hy)
  have Mi := Aside0.mk (value_wide_minus.calls y0 y1 v0 v1 · ht)
  have P := Aside0.mk (value_wide_plus.calls x0 x1 v0 v1 r0 r1 · hp)
  have K := Aside0.mk (cmp_Compare_int64.calls r0 0 t · hk)
  clear hx hy ht hp hk
  have O := Aside0.mk (value_Order.calls k0 n0 s0 k1 n1 s1 _ · (order_f k0 n0 s0 k1 n1 s1))
  generalize orderR k0 n0 s0 k1 n1 s1 = c at *
  have N := Aside0.mk (value_Right.calls 1 k0 n0 s0 (rightB k0 n0 s0) · (right_f 0 k0 n0 s0))
  rw [hr0] at N
  clear hr0
  have M := Aside0.mk (value_Right.calls 1 k1 n1 s1 (rightB k1 n1 s1) · (right_f 0 k1 n1 s1))
  rw [hr1] at M
  clear hr1
  have A0 := Aside0.mk (value_number.calls k0 n0 s0 (numB k0) · (number_f k0 n0 s0))
  rw [q0] at A0
  clear q0
  have A1 := Aside0.mk (value_number.calls k1 n1 s1 (numB k1) · (number_f k1 n1 s1))
  rw [q1] at A1
  clear q1
  go_enter Tryd.func9, Tryd.ntmps9
  go_wp2_with fail
  refine (N.out _).mono ?_
  rintro e w1 ⟨rfl, hb1⟩
  obtain ⟨c10, f10, l10⟩ := bcells hb1 (w.heap.size) (by first | assumption | (simp; done) | (simp; omega) | omega)
  obtain ⟨c11, f11, l11⟩ := bcells hb1 (w.heap.size + 1) (by first | assumption | (simp; done) | (simp; omega) | omega)
  replace hb1 := Aside0.mk hb1
  go_wp2_with fail
  refine (M.out _).mono ?_
  rintro e w2 ⟨rfl, hb2⟩
  obtain ⟨c20, f20, l20⟩ := bcells hb2 (w.heap.size) (by first | assumption | (simp; done) | (simp; omega) | omega)
  obtain ⟨c21, f21, l21⟩ := bcells hb2 (w.heap.size + 1) (by first | assumption | (simp; done) | (simp; omega) | omega)
  replace hb2 := Aside0.mk hb2
  go_wp2_with fail
  refine (O.out _).mono ?_
  rintro e w3 ⟨rfl, hb3⟩
  obtain ⟨c30, f30, l30⟩ := bcells hb3 (w.heap.size) (by first | assumption | (simp; done) | (simp; omega) | omega)
  obtain ⟨c31, f31, l31⟩ := bcells hb3 (w.heap.size + 1) (by first | assumption | (simp; done) | (simp; omega) | omega)
  replace hb3 := Aside0.mk hb3
  go_wp2_with fail
  refine (A0.out _).mono ?_
  rintro e w4 ⟨rfl, hb4⟩
  obtain ⟨c40, f40, l40⟩ := bcells hb4 (w.heap.size) (by first | assumption | (simp; done) | (simp; omega) | omega)
  obtain ⟨c41, f41, l41⟩ := bcells hb4 (w.heap.size + 1) (by first | assumption | (simp; done) | (simp; omega) | omega)
  replace hb4 := Aside0.mk hb4
  go_wp2_with fail
  refine (A1.out _).mono ?_
  rintro e w5 ⟨rfl, hb5⟩
  obtain ⟨c50, f50, l50⟩ := bcells hb5 (w.heap.size) (by first | assumption | (simp; done) | (simp; omega) | omega)
  obtain ⟨c51, f51, l51⟩ := bcells hb5 (w.heap.size + 1) (by first | assumption | (simp; done) | (simp; omega) | omega)
  replace hb5 := Aside0.mk hb5
  go_wp2_with fail
  have rules : ∀ W, Below w5.heap.size w5 W → (W.cell? ⟨w.heap.size, 0, none⟩ = some (.int .u8 k0) ∧ W.cell? ⟨w.heap.size, 1, none⟩ = some (.int .i64 n0) ∧ W.cell? ⟨w.heap.size, 2, none⟩ = some (.string s0)) ∧ W.cell? ⟨w.heap.size + 1, 0, none⟩ = some (.int .u8 k1) ∧ W.cell? ⟨w.heap.size + 1, 1, none⟩ = some (.int .i64 n1) ∧ W.cell? ⟨w.heap.size + 1, 2, none⟩ = some (.string s1) :=
    fun W h => ⟨⟨pw_cell_below h (by go_simp), pw_cell_below h (by go_simp), pw_cell_below h (by go_simp)⟩, pw_cell_below h (by go_simp), pw_cell_below h (by go_simp), pw_cell_below h (by go_simp)⟩
  have ra0 := fun W h => (rules W h).1.1
  have ra1 := fun W h => (rules W h).1.2.1
  have ra2 := fun W h => (rules W h).1.2.2
  have rb0 := fun W h => (rules W h).2.1
  have rb1 := fun W h => (rules W h).2.2.1
  have rb2 := fun W h => (rules W h).2.2.2
  clear rules c10 c11 c20 c21 c30 c31 c40 c41 c50 c51 f10 f11 f20 f21 f30 f31 f40 f41 f50 f51 l10 l11 l20 l21 l30 l31 l40 l41 l50 l51
  have St0 := Aside0.mk (show Below w5.heap.size w5 w5.drew from below_drew1 (Below.refl _ _))
  go_cut [9] (fun s9 wx => ∃ g : Nat, s9 = .pointer (some ⟨g, 0, none⟩) ∧ wx.cell? ⟨g, 0, none⟩ = some (.int .i64 r0) ∧ wx.cell? ⟨g, 1, none⟩ = some (.int .u64 r1) ∧ Below w5.heap.size w5 wx)
  case first =>
    go_region_held3 (fun W => Below w5.heap.size w5 W)
      (first | (with_reducible exact St0.out) | (with_reducible exact below_drew1 (below_alloc (Below.refl _ _) _)) | (with_reducible exact below_step (by assumption) hb) | (with_reducible exact below_alloc (by assumption) _) | (with_reducible exact below_alloc hB _) | (exact set_ok (set_ok (by assumption) (by first | exact Nat.le_refl _ | exact below_size (by assumption)) _) (by first | exact Nat.le_refl _ | exact below_size (by assumption)) _))
      (first | (((with_reducible refine (F0.out _).mono ?_); rintro e w' ⟨rfl, hb⟩; have hB := (below_step (by assumption) hb : Below w5.heap.size w5 w'); have cR := (bcell hb).1; have fR := (bcell hb).2; first | (have lR := lt_alloc hb) | (have lR := lt_allocd hb) | (have lR := lt_keep hb (by assumption)) | skip)) | (((with_reducible refine (F1.out _).mono ?_); rintro e w' ⟨rfl, hb⟩; have hB := (below_step (by assumption) hb : Below w5.heap.size w5 w'); have cR := (bcell hb).1; have fR := (bcell hb).2; first | (have lR := lt_alloc hb) | (have lR := lt_allocd hb) | (have lR := lt_keep hb (by assumption)) | skip)) | (((with_reducible refine (Mi.out _).mono ?_); rintro e w' ⟨rfl, hb⟩; have hB := (below_step (by assumption) hb : Below w5.heap.size w5 w'); have cR := (bcell hb).1; have fR := (bcell hb).2; first | (have lR := lt_alloc hb) | (have lR := lt_allocd hb) | (have lR := lt_keep hb (by assumption)) | skip)) | (((with_reducible refine (P.out _).mono ?_); rintro e w' ⟨rfl, hb⟩; have hB := (below_step (by assumption) hb : Below w5.heap.size w5 w'); have cR := (bcell hb).1; have fR := (bcell hb).2; first | (have lR := lt_alloc hb) | (have lR := lt_allocd hb) | (have lR := lt_keep hb (by assumption)) | skip)))
    all_goals (go_wp2_with fail; go_meet; exact ⟨_, rfl, by go_simp, by go_simp, by assumption⟩)
  case rest =>
    obtain ⟨g, rfl, g0, g1, hb6⟩ := hcut
    replace hb6 := Aside0.mk hb6
    have bz : Below w.heap.size w wc := below_step (below_step (below_step (below_step (below_step (below_step (below_alloc (below_alloc (Below.refl _ _) _) _) hb1.out) hb2.out) hb3.out) hb4.out) hb5.out) hb6.out
    replace bz := Aside0.mk bz
    go_wp2_with fail
    refine (K.out _).mono ?_
    rintro e w' ⟨rfl, ⟨nn, rfl⟩⟩
    rcases tr with rfl | rfl | rfl
    case inl =>
      go_wp2
      all_goals
        go_ret2
        refine ⟨Res_eq ?_, (pw_below_drewN bz.out _)⟩
        first | (simp only [*, cmpop, boolT, cond_true, cond_false]; first | done | rfl | decide) | (exfalso; have a7 := beq_eq_false_iff_ne.mp ‹(op == 7) = false›; have a8 := beq_eq_false_iff_ne.mp ‹(op == 8) = false›; have a9 := beq_eq_false_iff_ne.mp ‹(op == 9) = false›; have a10 := beq_eq_false_iff_ne.mp ‹(op == 10) = false›; have a11 := beq_eq_false_iff_ne.mp ‹(op == 11) = false›; have a12 := beq_eq_false_iff_ne.mp ‹(op == 12) = false›; omega)
    case inr.inr =>
      go_wp2
      all_goals
        go_ret2
        refine ⟨Res_eq ?_, (pw_below_drewN bz.out _)⟩
        first | (simp only [*, cmpop, boolT, cond_true, cond_false]; first | done | rfl | decide) | (exfalso; have a7 := beq_eq_false_iff_ne.mp ‹(op == 7) = false›; have a8 := beq_eq_false_iff_ne.mp ‹(op == 8) = false›; have a9 := beq_eq_false_iff_ne.mp ‹(op == 9) = false›; have a10 := beq_eq_false_iff_ne.mp ‹(op == 10) = false›; have a11 := beq_eq_false_iff_ne.mp ‹(op == 11) = false›; have a12 := beq_eq_false_iff_ne.mp ‹(op == 12) = false›; omega)
    case inr.inl =>
      by_cases hz : r1 = 0
      · subst hz
        go_wp2
        all_goals
          go_ret2
          refine ⟨Res_eq ?_, (pw_below_drewN bz.out _)⟩
          first | (simp only [*, cmpop, boolT, cond_true, cond_false]; first | done | rfl | decide) | (exfalso; have a7 := beq_eq_false_iff_ne.mp ‹(op == 7) = false›; have a8 := beq_eq_false_iff_ne.mp ‹(op == 8) = false›; have a9 := beq_eq_false_iff_ne.mp ‹(op == 9) = false›; have a10 := beq_eq_false_iff_ne.mp ‹(op == 10) = false›; have a11 := beq_eq_false_iff_ne.mp ‹(op == 11) = false›; have a12 := beq_eq_false_iff_ne.mp ‹(op == 12) = false›; omega)
      · have hz1 : (r1 == 0) = false := beq_false_of_ne hz
        have hz2 : (r1 != 0) = true := by simpa [bne] using hz
        go_wp2
        all_goals
          go_ret2
          refine ⟨Res_eq ?_, (pw_below_drewN bz.out _)⟩
          first | (simp only [*, cmpop, boolT, cond_true, cond_false]; first | done | rfl | decide) | (exfalso; have a7 := beq_eq_false_iff_ne.mp ‹(op == 7) = false›; have a8 := beq_eq_false_iff_ne.mp ‹(op == 8) = false›; have a9 := beq_eq_false_iff_ne.mp ‹(op == 9) = false›; have a10 := beq_eq_false_iff_ne.mp ‹(op == 10) = false›; have a11 := beq_eq_false_iff_ne.mp ‹(op == 11) = false›; have a12 := beq_eq_false_iff_ne.mp ‹(op == 12) = false›; omega)
end Go.Proofs.YtbodlnoipkommaaDoor.Xc
namespace Go.Proofs.YtbodlnoipkommaaDoor.Xd
open Go.RowKit Go.Proofs.YtbodlnoipkommaaDoor.Q Go.Proofs.YtbodlnoipkommaaDoor.We Go.Proofs.YtbodlnoipkommaaDoor.Wh Go.Proofs.YtbodlnoipkommaaDoor.Wp Go.Proofs.YtbodlnoipkommaaDoor.Pa Go.Proofs.YtbodlnoipkommaaDoor.Pb Go.Proofs.YtbodlnoipkommaaDoor.Xc Go.Proofs.YtbodlnoipkommaaDoorW.PrintWords Go.Proofs.YtbodlnoipkommaaDoorW.PrintLast Go.Proofs.YtbodlnoipkommaaDoorW.PrintMore
def value_Compare.f (op k0 n0 : Int) (s0 : ByteArray) (k1 n1 : Int) (s1 : ByteArray) : Option (Int × Int) := if I64 n0 ∧ I64 n1 then some (compareR op k0 n0 s0 k1 n1 s1) else none
theorem value_Compare.calls (op k0 n0 : Int) (s0 : ByteArray) (k1 n1 : Int) (s1 : ByteArray) (r1 r2 : Int) (w : World) (h : value_Compare.f op k0 n0 s0 k1 n1 s1 = some (r1, r2)) :
    Calls Tryd.prog 9 #[.int .u8 op, .agg #[.int .u8 k0, .int .i64 n0, .string s0], .agg #[.int .u8 k1, .int .i64 n1, .string s1]] w fun e w' => e = .returned (.tuple #[.int .u8 r1, .int .i64 r2]) ∧ Below w.heap.size w w' := by
  unfold value_Compare.f at h
  by_cases hc : I64 n0 ∧ I64 n1
  case neg => rw [if_neg hc] at h; cases h
  rw [if_pos hc] at h
  obtain ⟨h0, h1⟩ := hc
  injection h with h
  unfold compareR at h
  by_cases o7 : op < 7
  · rw [if_pos (Or.inl o7)] at h
    injection h with e1 e2; subst e1 e2
    exact c_lo op k0 n0 s0 k1 n1 s1 w o7
  by_cases o12 : op > 12
  · rw [if_pos (Or.inr (Or.inl o12))] at h
    injection h with e1 e2; subst e1 e2
    exact c_hi op k0 n0 s0 k1 n1 s1 w o7 o12
  cases hr0 : rightB k0 n0 s0
  · rw [if_pos (Or.inr (Or.inr (Or.inl hr0)))] at h
    injection h with e1 e2; subst e1 e2
    exact c_r0 op k0 n0 s0 k1 n1 s1 w o7 o12 hr0
  cases hr1 : rightB k1 n1 s1
  · rw [if_pos (Or.inr (Or.inr (Or.inr hr1)))] at h
    injection h with e1 e2; subst e1 e2
    exact c_r1 op k0 n0 s0 k1 n1 s1 w o7 o12 hr0 hr1
  simp only [o7, o12, hr0, hr1, Bool.true_eq_false, or_self, if_false] at h
  by_cases z0 : k0 = 0
  · rw [if_pos (Or.inl z0)] at h
    injection h with e1 e2; subst e1 e2
    exact c_null0 op k0 n0 s0 k1 n1 s1 w o7 o12 hr0 hr1 (by simpa using z0)
  by_cases z1 : k1 = 0
  · rw [if_pos (Or.inr z1)] at h
    injection h with e1 e2; subst e1 e2
    exact c_null1 op k0 n0 s0 k1 n1 s1 w o7 o12 hr0 hr1 (beq_false_of_ne z0) (by simpa using z1)
  simp only [z0, z1, or_self, if_false] at h
  by_cases e : k0 = k1
  · rw [if_pos e] at h
    injection h with e1 e2; subst e1 e2
    exact c_same op k0 n0 s0 k1 n1 s1 w o7 o12 hr0 hr1 (beq_false_of_ne z0) (beq_false_of_ne z1) (by simp [e])
  rw [if_neg e] at h
  have e' : (k0 != k1) = true := by simpa [bne] using e
  cases q0 : numB k0
  · rw [if_neg (by rw [q0]; simp)] at h
    injection h with e1 e2; subst e1 e2
    exact c_k0 op k0 n0 s0 k1 n1 s1 w o7 o12 hr0 hr1 (beq_false_of_ne z0) (beq_false_of_ne z1) e' q0
  cases q1 : numB k1
  · rw [if_neg (by rw [q1]; simp)] at h
    injection h with e1 e2; subst e1 e2
    exact c_k1 op k0 n0 s0 k1 n1 s1 w o7 o12 hr0 hr1 (beq_false_of_ne z0) (beq_false_of_ne z1) e' q0 q1
  rw [if_pos ⟨q0, q1⟩] at h
  injection h with e1 e2; subst e1 e2
  have hs := ((fix_range k0 n0 h0).2.2 k1 n1 h1)
  have e3 : fixV k0 n0 + -fixV k1 n1 = fixV k0 n0 - fixV k1 n1 := by omega
  have := c_num op k0 n0 s0 k1 n1 s1 _ _ _ _ _ _ _ _ _ w o7 o12 hr0 hr1 (beq_false_of_ne z0) (beq_false_of_ne z1) e' q0 q1 (fixed_fV k0 n0 s0 h0) (fixed_fV k1 n1 s1 h1) (minus_f _ (fix_range k1 n1 h1).1 (fix_range k1 n1 h1).2.1) (plus_f _ _ (fix_range k0 n0 h0).1 (fix_range k1 n1 h1).2.1 hs.2.2) (cmp64_f _ _) (cmpI_range _ _)
  rw [e3, sgn_f _ hs.2.1] at this
  exact this
end Go.Proofs.YtbodlnoipkommaaDoor.Xd
namespace Go.Proofs.YtbodlnoipkommaaDoor.Q
open Go.RowKit Go.Proofs.YtbodlnoipkommaaDoorW.PrintWords Go.Proofs.YtbodlnoipkommaaDoorW.PrintLast Go.Proofs.YtbodlnoipkommaaDoorW.PrintMore
attribute [local go_sem] max2_int min2_int max_two min_two max_three min_three max_four min_four   -- for this text's walks alone
set_option linter.unusedVariables false
set_option linter.unusedSimpArgs false
def chancerylaw17_num.f (a0 : Int) : Option (Int × Int × ByteArray) := some (2, a0, (⟨#[]⟩ : ByteArray))
set_option maxHeartbeats 8000000 in
set_option maxRecDepth 100000 in
theorem chancerylaw17_num.calls (a0 : Int) (r1 : Int) (r2 : Int) (r3 : ByteArray) (w : World) (h : chancerylaw17_num.f a0 = some (r1, r2, r3)) :
    Calls Tryd.prog 49 #[.int .i64 a0] w fun e w' => e = .returned (.agg #[.int .u8 r1, .int .i64 r2, .string r3]) ∧ Below w.heap.size w w' := by
  have hu25 := Tryd.underlying25
  have HB := Aside0.mk (Below.refl w.heap.size w)
  have H : (some (2, a0, (⟨#[]⟩ : ByteArray))) = some (r1, r2, r3) := h
  clear h
  simp only [Option.some.injEq, Prod.mk.injEq] at H
  obtain ⟨rfl, rfl, rfl⟩ := H
  go_enter Tryd.func49, Tryd.ntmps49
  go_wp2_with (first | ((with_reducible refine gate_dst (N := 2) rfl ?_); refine box_event ?hg (N := 2) ?hd (cs := #[.int .u8 0, .int .i64 0, .string (⟨#[]⟩ : ByteArray)]) (t := 25) ?hr ?_; (case hd => rfl); (case hg => rfl); (case hr => first | (go_simp; done) | (go_simp; rfl)); intro gb200 hg w2 hbox hb; have n0_ := Aside0.mk (below_step (by repeat (first | (with_reducible first | exact HB.out | apply below_alloc | apply pw_below_drewN | apply below_drew1) | exact HB.out)) hb); have n1_ := Aside0.mk (hbox); have n2_ := Aside0.mk ((by rw [hg]; exact (below_size (by repeat (first | (with_reducible first | exact HB.out | apply below_alloc | apply pw_below_drewN | apply below_drew1) | exact HB.out))) : w.heap.size ≤ gb200)); have n3_ := Aside0.mk ((by rw [hg]; exact (below_size (by repeat (first | (with_reducible first | exact HB.out | apply below_alloc | apply pw_below_drewN | apply below_drew1) | exact HB.out))) : w.heap.size ≤ gb200)); clear HB; have HB := n0_; have BK200 := n1_; have GW200 := n2_; have GE200 := n3_; clear n0_ n1_ n2_ n3_; clear hb hbox hg; have hcz3_0 : w2.cell? ⟨gb200, 0, none⟩ = some (.int .u8 0) := (blk_cell BK200.out 0).trans rfl; have hcz3_1 : w2.cell? ⟨gb200, 1, none⟩ = some (.int .i64 0) := (blk_cell BK200.out 1).trans rfl; have hcz3_2 : w2.cell? ⟨gb200, 2, none⟩ = some (.string (⟨#[]⟩ : ByteArray)) := (blk_cell BK200.out 2).trans rfl; have hfz3_0 := blk_frozen BK200.out 0; have hfz3_1 := blk_frozen BK200.out 1; have hfz3_2 := blk_frozen BK200.out 2))
  refine bodyPost_ret (results_cell_row rfl _ _ gb200 25 #[.int .u8 2, .int .i64 a0, .string (⟨#[]⟩ : ByteArray)] (0, 0) _ rfl (by (with_reducible repeat (first | refine blk_drewN ?_ _ | refine blk_drew ?_ | refine blk_alloc ?_ _)); refine blk_put (cs := #[.int .u8 2, .int .i64 a0, .string (⟨#[]⟩ : ByteArray)]) ?_ 2 _ rfl; (with_reducible repeat (first | refine blk_drewN ?_ _ | refine blk_drew ?_ | refine blk_alloc ?_ _)); refine blk_put (cs := #[.int .u8 2, .int .i64 0, .string (⟨#[]⟩ : ByteArray)]) ?_ 1 _ rfl; (with_reducible repeat (first | refine blk_drewN ?_ _ | refine blk_drew ?_ | refine blk_alloc ?_ _)); refine blk_put (cs := #[.int .u8 0, .int .i64 0, .string (⟨#[]⟩ : ByteArray)]) ?_ 0 _ rfl; (with_reducible repeat (first | refine blk_drewN ?_ _ | refine blk_drew ?_ | refine blk_alloc ?_ _)); exact BK200.out) Tryd.underlying25 rfl (by kernel_rfl)) rfl ?_
  exact ⟨by first | rfl | (simp [errW_none, errW_some] <;> rfl) | (simp [*, errW_none, errW_some] <;> rfl), by repeat (first | (with_reducible first | exact HB.out | apply below_alloc | apply pw_below_drewN | apply below_drew1 | refine below_set ?_ GE200.out) | exact HB.out)⟩
end Go.Proofs.YtbodlnoipkommaaDoor.Q
namespace Go.Proofs.YtbodlnoipkommaaDoor.Q
open Go.RowKit Go.Proofs.YtbodlnoipkommaaDoorW.PrintWords Go.Proofs.YtbodlnoipkommaaDoorW.PrintLast Go.Proofs.YtbodlnoipkommaaDoorW.PrintMore
attribute [local go_sem] max2_int min2_int max_two min_two max_three min_three max_four min_four   -- for this text's walks alone
set_option linter.unusedVariables false
set_option linter.unusedSimpArgs false
def chancerylaw17_dec.f (a0 : Int) : Option (Int × Int × ByteArray) := some (3, a0, (⟨#[]⟩ : ByteArray))
set_option maxHeartbeats 8000000 in
set_option maxRecDepth 100000 in
theorem chancerylaw17_dec.calls (a0 : Int) (r1 : Int) (r2 : Int) (r3 : ByteArray) (w : World) (h : chancerylaw17_dec.f a0 = some (r1, r2, r3)) :
    Calls Tryd.prog 50 #[.int .i64 a0] w fun e w' => e = .returned (.agg #[.int .u8 r1, .int .i64 r2, .string r3]) ∧ Below w.heap.size w w' := by
  have hu25 := Tryd.underlying25
  have HB := Aside0.mk (Below.refl w.heap.size w)
  have H : (some (3, a0, (⟨#[]⟩ : ByteArray))) = some (r1, r2, r3) := h
  clear h
  simp only [Option.some.injEq, Prod.mk.injEq] at H
  obtain ⟨rfl, rfl, rfl⟩ := H
  go_enter Tryd.func50, Tryd.ntmps50
  go_wp2_with (first | ((with_reducible refine gate_dst (N := 2) rfl ?_); refine box_event ?hg (N := 2) ?hd (cs := #[.int .u8 0, .int .i64 0, .string (⟨#[]⟩ : ByteArray)]) (t := 25) ?hr ?_; (case hd => rfl); (case hg => rfl); (case hr => first | (go_simp; done) | (go_simp; rfl)); intro gb201 hg w2 hbox hb; have n0_ := Aside0.mk (below_step (by repeat (first | (with_reducible first | exact HB.out | apply below_alloc | apply pw_below_drewN | apply below_drew1) | exact HB.out)) hb); have n1_ := Aside0.mk (hbox); have n2_ := Aside0.mk ((by rw [hg]; exact (below_size (by repeat (first | (with_reducible first | exact HB.out | apply below_alloc | apply pw_below_drewN | apply below_drew1) | exact HB.out))) : w.heap.size ≤ gb201)); have n3_ := Aside0.mk ((by rw [hg]; exact (below_size (by repeat (first | (with_reducible first | exact HB.out | apply below_alloc | apply pw_below_drewN | apply below_drew1) | exact HB.out))) : w.heap.size ≤ gb201)); clear HB; have HB := n0_; have BK201 := n1_; have GW201 := n2_; have GE201 := n3_; clear n0_ n1_ n2_ n3_; clear hb hbox hg; have hcz3_0 : w2.cell? ⟨gb201, 0, none⟩ = some (.int .u8 0) := (blk_cell BK201.out 0).trans rfl; have hcz3_1 : w2.cell? ⟨gb201, 1, none⟩ = some (.int .i64 0) := (blk_cell BK201.out 1).trans rfl; have hcz3_2 : w2.cell? ⟨gb201, 2, none⟩ = some (.string (⟨#[]⟩ : ByteArray)) := (blk_cell BK201.out 2).trans rfl; have hfz3_0 := blk_frozen BK201.out 0; have hfz3_1 := blk_frozen BK201.out 1; have hfz3_2 := blk_frozen BK201.out 2))
  refine bodyPost_ret (results_cell_row rfl _ _ gb201 25 #[.int .u8 3, .int .i64 a0, .string (⟨#[]⟩ : ByteArray)] (0, 0) _ rfl (by (with_reducible repeat (first | refine blk_drewN ?_ _ | refine blk_drew ?_ | refine blk_alloc ?_ _)); refine blk_put (cs := #[.int .u8 3, .int .i64 a0, .string (⟨#[]⟩ : ByteArray)]) ?_ 2 _ rfl; (with_reducible repeat (first | refine blk_drewN ?_ _ | refine blk_drew ?_ | refine blk_alloc ?_ _)); refine blk_put (cs := #[.int .u8 3, .int .i64 0, .string (⟨#[]⟩ : ByteArray)]) ?_ 1 _ rfl; (with_reducible repeat (first | refine blk_drewN ?_ _ | refine blk_drew ?_ | refine blk_alloc ?_ _)); refine blk_put (cs := #[.int .u8 0, .int .i64 0, .string (⟨#[]⟩ : ByteArray)]) ?_ 0 _ rfl; (with_reducible repeat (first | refine blk_drewN ?_ _ | refine blk_drew ?_ | refine blk_alloc ?_ _)); exact BK201.out) Tryd.underlying25 rfl (by kernel_rfl)) rfl ?_
  exact ⟨by first | rfl | (simp [errW_none, errW_some] <;> rfl) | (simp [*, errW_none, errW_some] <;> rfl), by repeat (first | (with_reducible first | exact HB.out | apply below_alloc | apply pw_below_drewN | apply below_drew1 | refine below_set ?_ GE201.out) | exact HB.out)⟩
end Go.Proofs.YtbodlnoipkommaaDoor.Q
namespace Go.Proofs.YtbodlnoipkommaaDoor.Pe
open Go.RowKit Go.Proofs.YtbodlnoipkommaaDoor.Q Go.Proofs.YtbodlnoipkommaaDoor.We Go.Proofs.YtbodlnoipkommaaDoor.Wf Go.Proofs.YtbodlnoipkommaaDoor.Wg Go.Proofs.YtbodlnoipkommaaDoor.Wh Go.Proofs.YtbodlnoipkommaaDoor.Wj Go.Proofs.YtbodlnoipkommaaDoor.Wk Go.Proofs.YtbodlnoipkommaaDoor.Wl Go.Proofs.YtbodlnoipkommaaDoor.Wo Go.Proofs.YtbodlnoipkommaaDoor.Wp Go.Proofs.YtbodlnoipkommaaDoor.Wq Go.Proofs.YtbodlnoipkommaaDoor.Ws Go.Proofs.YtbodlnoipkommaaDoor.Wt Go.Proofs.YtbodlnoipkommaaDoor.Pa Go.Proofs.YtbodlnoipkommaaDoor.Pb Go.Proofs.YtbodlnoipkommaaDoor.Pc Go.Proofs.YtbodlnoipkommaaDoor.Xd Go.Proofs.YtbodlnoipkommaaDoorW.PrintWords Go.Proofs.YtbodlnoipkommaaDoorW.PrintLast Go.Proofs.YtbodlnoipkommaaDoorW.PrintMore
theorem toList_empty : (⟨#[]⟩ : ByteArray).toList = [] := by
  rw [ByteArray.toList_eq]
theorem right_num (n : Int) : rightB 2 n ⟨#[]⟩ = true ∧ rightB 3 n ⟨#[]⟩ = true := by
  unfold rightB
  rw [toList_empty]
  exact ⟨rfl, rfl⟩
theorem asked_num (k0 n0 k1 n1 : Int) (h0 : k0 = 2 ∨ k0 = 3) (h1 : k1 = 2 ∨ k1 = 3) : askedR k0 n0 ⟨#[]⟩ k1 n1 ⟨#[]⟩ = (false, 0) := by
  unfold askedR
  rcases h0 with rfl | rfl <;> rcases h1 with rfl | rfl <;> simp only [right_num] <;> rfl
theorem print_half : value_Print.f 3 (-5000) ⟨#[]⟩ = some ⟨#[45, 48, 46, 53, 48, 48, 48]⟩ := by
  unfold value_Print.f
  rw [if_pos (by decide)]
  have hr : rightB 3 (-5000) ⟨#[]⟩ = true := (right_num _).2
  unfold printR
  rw [hr]
  simp only [show ¬ ((3 : Int) = 0) by decide, show ¬ ((3 : Int) = 1) by decide, show ¬ ((3 : Int) = 2) by decide, if_false, if_true, Bool.true_eq_false]
  have e : Lib.decDigits 15000 = [49, 53, 48, 48, 48] := by
    rw [Lib.decDigits, dif_neg (by decide), Lib.decDigits, dif_neg (by decide), Lib.decDigits, dif_neg (by decide), Lib.decDigits, dif_neg (by decide), Lib.decDigits_one (by decide)]
    rfl
  have e0 : Lib.decDigits 0 = [48] := Lib.decDigits_one (by decide)
  unfold decimalS fourS
  rw [if_pos (by decide)]
  show some (dash ++ (dec 0 ++ dot ++ (dec 15000).extract 1 (dec 15000).size)) = _
  unfold dec
  rw [e, e0]
  rfl
theorem cmp_ex : value_Compare.f 9 2 1 ⟨#[]⟩ 3 15000 ⟨#[]⟩ = some (1, 0) := by
  unfold value_Compare.f compareR; rw [if_pos (by decide)]; rw [(right_num 1).1, (right_num 15000).2]; decide
theorem add_ex : value_Add.f 2 9223372036854775807 ⟨#[]⟩ 2 1 ⟨#[]⟩ = some (0, 0, ⟨#[]⟩, 271) := by
  rw [add_f 2 9223372036854775807 ⟨#[]⟩ 2 1 ⟨#[]⟩ (by decide) (by decide)]
  unfold addR; rw [asked_num _ _ _ _ (by decide) (by decide)]; rfl
theorem mul_ex1 : value_Mul.f 3 3 1 ⟨#[]⟩ 3 5000 ⟨#[]⟩ = some (3, 0, ⟨#[]⟩, 0) := by
  rw [mul_f 0 3 1 ⟨#[]⟩ 3 5000 ⟨#[]⟩ (by decide) (by decide)]
  unfold mulR; rw [asked_num _ _ _ _ (by decide) (by decide)]; rfl
theorem mul_ex2 : value_Mul.f 3 3 3 ⟨#[]⟩ 3 5000 ⟨#[]⟩ = some (3, 2, ⟨#[]⟩, 0) := by
  rw [mul_f 0 3 3 ⟨#[]⟩ 3 5000 ⟨#[]⟩ (by decide) (by decide)]
  unfold mulR; rw [asked_num _ _ _ _ (by decide) (by decide)]; rfl
theorem right_ex : value_Right.f 1 2 7 ⟨#[]⟩ = some true := by rw [right_f, (right_num 7).1]
end Go.Proofs.YtbodlnoipkommaaDoor.Pe
namespace Go.Proofs.YtbodlnoipkommaaDoor.Xa
open Go.RowKit Go.Proofs.YtbodlnoipkommaaDoor.Q Go.Proofs.YtbodlnoipkommaaDoor.Wf Go.Proofs.YtbodlnoipkommaaDoor.Wg Go.Proofs.YtbodlnoipkommaaDoor.Wh Go.Proofs.YtbodlnoipkommaaDoor.Wi Go.Proofs.YtbodlnoipkommaaDoor.Wm Go.Proofs.YtbodlnoipkommaaDoor.Wn Go.Proofs.YtbodlnoipkommaaDoor.Wo Go.Proofs.YtbodlnoipkommaaDoor.Wp Go.Proofs.YtbodlnoipkommaaDoor.Wt Go.Proofs.YtbodlnoipkommaaDoor.Xd Go.Proofs.YtbodlnoipkommaaDoor.Pb Go.Proofs.YtbodlnoipkommaaDoor.Pe Go.Proofs.YtbodlnoipkommaaDoorW.PrintWords Go.Proofs.YtbodlnoipkommaaDoorW.PrintLast Go.Proofs.YtbodlnoipkommaaDoorW.PrintMore
abbrev vv (k n : Int) : Value := .agg #[.int .u8 k, .int .i64 n, .string ⟨#[]⟩]
theorem num_c (n : Int) (w : World) : Calls Tryd.prog 49 #[.int .i64 n] w fun e w' => e = .returned (vv 2 n) ∧ Below w.heap.size w w' := chancerylaw17_num.calls n _ _ _ w rfl
theorem dec_c (n : Int) (w : World) : Calls Tryd.prog 50 #[.int .i64 n] w fun e w' => e = .returned (vv 3 n) ∧ Below w.heap.size w w' := chancerylaw17_dec.calls n _ _ _ w rfl
set_option maxRecDepth 100000 in
set_option maxHeartbeats 4000000 in
theorem awake_calls (w : World) (hg : VOK w) : Calls Tryd.prog 15 #[] w fun e w' => e = .returned (.bool true) ∧ Below w.heap.size w w' := by
  have C := Aside0.mk (fun W => value_Compare.calls 9 2 1 ⟨#[]⟩ 3 15000 ⟨#[]⟩ _ _ W cmp_ex)
  have A := Aside0.mk (fun W => value_Add.calls 2 9223372036854775807 ⟨#[]⟩ 2 1 ⟨#[]⟩ _ _ _ _ W add_ex)
  have M1 := Aside0.mk (fun W => value_Mul.calls 3 3 1 ⟨#[]⟩ 3 5000 ⟨#[]⟩ _ _ _ _ W mul_ex1)
  have M2 := Aside0.mk (fun W => value_Mul.calls 3 3 3 ⟨#[]⟩ 3 5000 ⟨#[]⟩ _ _ _ _ W mul_ex2)
  have Pr := Aside0.mk (fun W => value_Print.calls 3 (-5000) ⟨#[]⟩ _ W print_half)
  have R := Aside0.mk (fun W => value_Right.calls 1 2 7 ⟨#[]⟩ true W right_ex)
  have An := Aside0.mk (fun W => value_And.calls 2 0 0 W rfl)
  have G := Aside0.mk hg
  have q1 : ∀ W, (binOp .eql 25 (vv 3 0) (vv 3 0)).run Tryd.prog W = .ok (.bool true) W := fun W => by kernel_rfl
  have q2 : ∀ W, (binOp .eql 25 (vv 3 2) (vv 3 2)).run Tryd.prog W = .ok (.bool true) W := fun W => by kernel_rfl
  clear hg
  go_enter Tryd.func15, Tryd.ntmps15
  go_wp2_with fail
  refine (num_c _ _).mono ?_; rintro e w1 ⟨rfl, h1⟩; replace h1 := Aside0.mk h1; go_wp2_with fail
  refine (dec_c _ _).mono ?_; rintro e w2 ⟨rfl, h2⟩; replace h2 := Aside0.mk h2; go_wp2_with fail
  refine (C.out _).mono ?_; rintro e w3 ⟨rfl, h3⟩; replace h3 := Aside0.mk h3; go_wp2_with fail
  refine (num_c _ _).mono ?_; rintro e w4 ⟨rfl, h4⟩; replace h4 := Aside0.mk h4; go_wp2_with fail
  refine (num_c _ _).mono ?_; rintro e w5 ⟨rfl, h5⟩; replace h5 := Aside0.mk h5; go_wp2_with fail
  refine (A.out _).mono ?_; rintro e w6 ⟨rfl, h6⟩; replace h6 := Aside0.mk h6; go_wp2_with fail
  refine (dec_c _ _).mono ?_; rintro e w7 ⟨rfl, h7⟩; replace h7 := Aside0.mk h7; go_wp2_with fail
  refine (dec_c _ _).mono ?_; rintro e w8 ⟨rfl, h8⟩; replace h8 := Aside0.mk h8; go_wp2_with fail
  refine (M1.out _).mono ?_; rintro e w9 ⟨rfl, h9⟩; replace h9 := Aside0.mk h9; go_wp2_with fail
  refine (dec_c _ _).mono ?_; rintro e w10 ⟨rfl, h10⟩
  obtain ⟨c10, f10, l10⟩ := bcells h10 w9.heap.size (by simp)
  replace h10 := Aside0.mk h10; go_wp2_with fail
  refine (dec_c _ _).mono ?_; rintro e w11 ⟨rfl, h11⟩
  obtain ⟨c11, f11, l11⟩ := bcells h11 w9.heap.size l10
  replace h11 := Aside0.mk h11; go_wp2_with fail
  refine (M2.out _).mono ?_; rintro e w12 ⟨rfl, h12⟩
  obtain ⟨c12, f12, l12⟩ := bcells h12 w9.heap.size l11
  replace h12 := Aside0.mk h12; go_wp2_with fail
  have Bw : Below w.heap.size w w12 := below_step (below_step (below_step (below_alloc (below_step (below_step (below_step (below_alloc (below_step (below_step (below_step (below_step (below_step (below_step (Below.refl _ _) h1.out) h2.out) h3.out) h4.out) h5.out) h6.out) _) h7.out) h8.out) h9.out) _) h10.out) h11.out) h12.out
  have G2 := Aside0.mk (VOK.below (VOK.below G.out Bw) (below_alloc (Below.refl _ _) (.cells #[.int .u8 3, .int .i64 2, .string ⟨#[]⟩] 25)))
  replace Bw := Aside0.mk Bw
  clear h1 h2 h3 h4 h5 h6 h7 h8 h9 h10 h11 h12
  obtain ⟨wz, hwz⟩ : ∃ wz, wz = w12.alloc (.cells #[.int .u8 3, .int .i64 2, .string ⟨#[]⟩] 25) := ⟨_, rfl⟩
  have ra0 : ∀ W, Below wz.heap.size wz W → W.cell? ⟨w9.heap.size, 0, none⟩ = some (.int .u8 3) := fun W h => pw_cell_below h (by subst hwz; go_simp)
  have ra1 : ∀ W, Below wz.heap.size wz W → W.cell? ⟨w9.heap.size, 1, none⟩ = some (.int .i64 0) := fun W h => pw_cell_below h (by subst hwz; go_simp)
  have ra2 : ∀ W, Below wz.heap.size wz W → W.cell? ⟨w9.heap.size, 2, none⟩ = some (.string ⟨#[]⟩) := fun W h => pw_cell_below h (by subst hwz; go_simp)
  have rb0 : ∀ W, Below wz.heap.size wz W → W.cell? ⟨w12.heap.size, 0, none⟩ = some (.int .u8 3) := fun W h => pw_cell_below h (by subst hwz; go_simp)
  have rb1 : ∀ W, Below wz.heap.size wz W → W.cell? ⟨w12.heap.size, 1, none⟩ = some (.int .i64 2) := fun W h => pw_cell_below h (by subst hwz; go_simp)
  have rb2 : ∀ W, Below wz.heap.size wz W → W.cell? ⟨w12.heap.size, 2, none⟩ = some (.string ⟨#[]⟩) := fun W h => pw_cell_below h (by subst hwz; go_simp)
  have Bz : Below w.heap.size w wz := by rw [hwz]; exact below_alloc Bw.out _
  replace Bz := Aside0.mk Bz
  rw [← hwz] at G2
  rw [← hwz]
  clear c10 c11 c12 f10 f11 f12 l10 l11 l12 hwz Bw
  have St0 := Aside0.mk (show Below wz.heap.size wz wz.drew from below_drew1 (Below.refl _ _))
  go_region_held3 (fun W => Below wz.heap.size wz W)
    (first | (with_reducible exact St0.out) | (with_reducible exact below_step (by assumption) hb) | (with_reducible exact pw_below_drewN (by assumption) _))
    (first | (((with_reducible refine (dec_c _ _).mono ?_); rintro e w' ⟨rfl, hb⟩)) | (((with_reducible refine (num_c _ _).mono ?_); rintro e w' ⟨rfl, hb⟩)) | (((with_reducible refine (An.out _ (VOK.below G2.out (by assumption))).mono ?_); rintro e w' ⟨rfl, ⟨nn, rfl⟩⟩)) | (((with_reducible refine (Pr.out _ (VOK.below G2.out (by assumption))).mono ?_); rintro e w' ⟨rfl, hb⟩)) | (((with_reducible refine (R.out _).mono ?_); rintro e w' ⟨rfl, hb⟩)))
  go_wp2
  go_ret
  exact ⟨rfl, below_step Bz.out (by first | assumption | exact below_step (by assumption) hb)⟩
end Go.Proofs.YtbodlnoipkommaaDoor.Xa
namespace Go.Proofs.YtbodlnoipkommaaDoor.Q
open Go.Proofs.YtbodlnoipkommaaDoor.Wf
open Go.Proofs.YtbodlnoipkommaaDoor.Wt Go.Proofs.YtbodlnoipkommaaDoor.Xa
open Go.RowKit Go.Proofs.YtbodlnoipkommaaDoorW.PrintWords Go.Proofs.YtbodlnoipkommaaDoorW.PrintLast Go.Proofs.YtbodlnoipkommaaDoorW.PrintMore
attribute [local go_sem] max2_int min2_int max_two min_two max_three min_three max_four min_four   -- for this text's walks alone
set_option linter.unusedVariables false
set_option linter.unusedSimpArgs false
attribute [local go_sem high] eqA25
end Go.Proofs.YtbodlnoipkommaaDoor.Q
namespace Go.Proofs.YtbodlnoipkommaaDoor.Pf
open Go.RowKit Go.Proofs.YtbodlnoipkommaaDoor.Q Go.Proofs.YtbodlnoipkommaaDoor.Wg Go.Proofs.YtbodlnoipkommaaDoor.Wh Go.Proofs.YtbodlnoipkommaaDoor.Wk Go.Proofs.YtbodlnoipkommaaDoor.Wp Go.Proofs.YtbodlnoipkommaaDoor.Wq Go.Proofs.YtbodlnoipkommaaDoor.Ws Go.Proofs.YtbodlnoipkommaaDoor.Wt Go.Proofs.YtbodlnoipkommaaDoor.Pa Go.Proofs.YtbodlnoipkommaaDoor.Pb Go.Proofs.YtbodlnoipkommaaDoor.Pc Go.Proofs.YtbodlnoipkommaaDoor.Pe Go.Proofs.YtbodlnoipkommaaDoor.Xa Go.Proofs.YtbodlnoipkommaaDoorW.PrintWords Go.Proofs.YtbodlnoipkommaaDoorW.PrintLast Go.Proofs.YtbodlnoipkommaaDoorW.PrintMore
theorem data_append (a b : ByteArray) : (a ++ b).data.toList = a.data.toList ++ b.data.toList := Joins.data_append a b
theorem hexs_cons (x : UInt8) (a : List UInt8) : hexs (x :: a) = hexd (x.toNat / 16) :: hexd (x.toNat % 16) :: hexs a := List.flatMap_cons
def tail4 (r : Nat) : List UInt8 := (Lib.decDigits (10000 + r)).drop 1
def fourL (u : Nat) : List UInt8 := Lib.decDigits (u / 10000) ++ 46 :: tail4 (u % 10000)
theorem extract_one (l : List UInt8) : ((⟨l.toArray⟩ : ByteArray).extract 1 (⟨l.toArray⟩ : ByteArray).size).data.toList = l.drop 1 := by
  rw [ByteArray.data_extract]
  show ((l.toArray).extract 1 l.toArray.size).toList = _
  simp
  rw [List.take_of_length_le (by simp)]
theorem four_data (u : Nat) : (fourS u).data.toList = fourL u := by
  unfold fourS fourL tail4
  rw [data_append, data_append]
  unfold dec
  rw [extract_one]
  show Lib.decDigits (u / 10000) ++ [46] ++ _ = _
  rw [List.append_assoc]; rfl
def decL (n : Int) : List UInt8 := if n < 0 then 45 :: fourL n.natAbs else fourL n.natAbs
theorem dec_data (n : Int) : (decimalS n).data.toList = decL n := by
  unfold decimalS decL
  split
  · rw [data_append, four_data]; rfl
  · exact four_data _
def litL (k n : Int) (s : List UInt8) : List UInt8 :=
  if k = 0 then [110, 117, 108, 108] else if k = 1 then (if n = 1 then [116, 114, 117, 101] else [102, 97, 108, 115, 101]) else if k = 2 then Lib.itoa n else if k = 3 then decL n else
  if k = 4 then 39 :: (Wt.quoted s ++ [39]) else 120 :: 39 :: (hexs s ++ [39])
theorem print_data (k n : Int) (s : ByteArray) (h : rightB k n s = true) : (printR k n s).data.toList = litL k n s.data.toList := by
  unfold printR litL
  rw [h]
  simp only [Bool.true_eq_false, if_false]
  split
  · rfl
  split
  · split <;> rfl
  split
  · rfl
  split
  · exact dec_data n
  split
  · rw [data_append, data_append]; rfl
  · rfl
theorem print_wrong (k n : Int) (s : ByteArray) (h : rightB k n s = false) : printR k n s = ⟨#[]⟩ := by unfold printR; rw [if_pos h]
theorem right_parts {k n : Int} {s : ByteArray} (h : rightB k n s = true) : (k = 0 → n = 0 ∧ s.toList = []) ∧ (k = 1 → (n = 0 ∨ n = 1) ∧ s.toList = []) ∧ (k = 2 ∨ k = 3 → s.toList = []) ∧ (k = 4 ∨ k = 5 → n = 0) := by
  unfold rightB at h
  refine ⟨?_, ?_, ?_, ?_⟩
  · rintro rfl; simpa using h
  · rintro rfl
    simp at h
    exact ⟨by omega, h.1⟩
  · rintro (rfl | rfl) <;> simpa using h
  · rintro (rfl | rfl) <;> (simp at h; exact h.1)
end Go.Proofs.YtbodlnoipkommaaDoor.Pf
namespace Go.Proofs.YtbodlnoipkommaaDoor.Q
open Go.RowKit Go.Proofs.YtbodlnoipkommaaDoorW.PrintWords Go.Proofs.YtbodlnoipkommaaDoorW.PrintLast Go.Proofs.YtbodlnoipkommaaDoorW.PrintMore
attribute [local go_sem] max2_int min2_int max_two min_two max_three min_three max_four min_four   -- for this text's walks alone
set_option linter.unusedVariables false
set_option linter.unusedSimpArgs false
def chanceryref17_digits.l0 : Nat → Int → Int → ByteArray → Option (ByteArray)
  | 0, _, _, _ => none
  | k + 1, x0, x1, x5 => if x0 > 0 then ((some (([(IntKind.u64.wrap (48 + (Int.tmod x0 10))) % 256] : List Int) : List Int)).bind fun y617 => (if (strOfNums y617).size + x5.size ≤ 9223372036854775807 then (chanceryref17_digits.l0 k (IntKind.u64.wrap (Int.tdiv x0 10)) x1 ((strOfNums y617) ++ x5)) else (none))) else (if (x5.size : Int) < x1 then ((some (([(IntKind.u64.wrap (48 + (Int.tmod x0 10))) % 256] : List Int) : List Int)).bind fun y620 => (if (strOfNums y620).size + x5.size ≤ 9223372036854775807 then (chanceryref17_digits.l0 k (IntKind.u64.wrap (Int.tdiv x0 10)) x1 ((strOfNums y620) ++ x5)) else (none))) else (some x5))
def chanceryref17_digits.f (k : Nat) (a0 : Int) (a1 : Int) : Option (ByteArray) := chanceryref17_digits.l0 k a0 a1 (⟨#[]⟩ : ByteArray)
set_option maxHeartbeats 8000000 in
set_option maxRecDepth 100000 in
theorem chanceryref17_digits.calls (k : Nat) (a0 : Int) (a1 : Int) (r : ByteArray) (w : World) (h : chanceryref17_digits.f k a0 a1 = some r) :
    Calls Tryd.prog 70 #[.int .u64 a0, .int .i64 a1] w fun e w' => e = .returned (.string r) ∧ Below w.heap.size w w' := by
  have HB := Aside0.mk (Below.refl w.heap.size w)
  have H : (chanceryref17_digits.l0 k a0 a1 (⟨#[]⟩ : ByteArray)) = some r := h
  clear h
  have H' := Aside0.mk H
  clear H
  go_enter Tryd.func70, Tryd.ntmps70
  go_wp2
  go_loopg [0, 5] k (fun kq v0 v5 w' => ∃ (x0_1 : Int) (x5_1 : ByteArray), v0 = .int .u64 x0_1 ∧ v5 = .string x5_1 ∧ Aside0 (chanceryref17_digits.l0 kq x0_1 a1 x5_1 = some r) ∧ Aside0 (kq ≤ k) ∧ Aside0 (Below w.heap.size w w'))
  case atStart => exact ⟨(a0), ((⟨#[]⟩ : ByteArray)), (by first | rfl | (simp; done) | (simp [*]; done)), (by first | rfl | (simp; done) | (simp [*]; done)), H', ⟨Nat.le_refl _⟩, ⟨by repeat (first | (with_reducible first | exact HB.out | apply below_alloc | apply pw_below_drewN | apply below_drew1) | exact HB.out)⟩⟩
  case round =>
    clear H'
    try clear p2
    obtain ⟨x0_1, x5_1, rfl, rfl, HA, HK1, HB⟩ := hrel
    cases gk with
    | zero => exact absurd HA.out (by simp [chanceryref17_digits.l0])
    | succ k1 =>
      have H := HA.out
      clear HA
      simp only [chanceryref17_digits.l0] at H
      by_cases c3 : x0_1 > 0
      · rw [if_pos c3] at H
        have c3b0 : decide (0 < x0_1) = true := decide_eq_true c3
        clear c3
        obtain ⟨y617, hy617⟩ : ∃ y_ : List Int, y_ = (([(IntKind.u64.wrap (48 + (Int.tmod x0_1 10))) % 256] : List Int)) := ⟨_, rfl⟩
        replace H : (if (strOfNums y617).size + x5_1.size ≤ 9223372036854775807 then (chanceryref17_digits.l0 k1 (IntKind.u64.wrap (Int.tdiv x0_1 10)) a1 ((strOfNums y617) ++ x5_1)) else (none)) = some r := by first | (rw [hy617]; with_reducible exact H) | (have H2_ := (Option.bind_some _ _).symm.trans H; rw [hy617]; with_reducible exact H2_) | (have H2_ := (Option.bind_some _ _).symm.trans H; with_reducible exact H2_) | with_reducible exact H | (rw [hy617]; exact H) | exact H
        have Ny617 := Aside0.mk hy617
        clear hy617
        by_cases c4 : (strOfNums y617).size + x5_1.size ≤ 9223372036854775807
        · rw [if_pos c4] at H
          have c4b0 := eq_true c4
          have c4b1 : decide ((strOfNums y617).size + x5_1.size ≤ 9223372036854775807) = true := decide_eq_true c4
          try have c4b2 : (9223372036854775807 < (strOfNums y617).size + x5_1.size) = False := eq_false (Nat.not_lt.2 c4)
          have H' := Aside0.mk H
          clear H
          go_wp2_with (first | ((with_reducible refine gate_dst (N := 18) rfl ?_); (try (refine gate_guard (by rfl) ?_; dsimp only)); refine Kd.R_lit (Kd.int .u8) _ 5 ?hg (N := 18) ?hd (xs := ([(IntKind.u64.wrap (48 + (Int.tmod x0_1 10))) % 256] : List Int)) (inner := [.int .u8 ((IntKind.u64.wrap (48 + (Int.tmod x0_1 10))) % 256)]) (ok := fun _ => True) (okp := fun _ => True) ?hr ?hp (fun _ hk => hk) trivial (Below.refl _ _) (Nat.le_refl _) (by simp) ?_; (case hd => rfl); (case hg => rfl); (case hr => first | (go_simp; done) | (go_simp; rfl)); (case hp => exact (Reps.one (show Kd.M (Kd.int .u8) _ _ _ ((IntKind.u64.wrap (48 + (Int.tmod x0_1 10))) % 256) [.int .u8 ((IntKind.u64.wrap (48 + (Int.tmod x0_1 10))) % 256)] from rfl) (Reps.none _ _))); intro v618 w5 ho6 hb hg_ hnew_; clear hg_ hnew_; (first | rw [← Ny617.out] at ho6 | (simp only [Int.reduceToNat] at ho6; rw [← Ny617.out] at ho6)); have n0_ := Aside0.mk (Kd.R_lower ho6 (below_size (by repeat (first | (with_reducible first | exact HB.out | apply below_alloc | apply pw_below_drewN | apply below_drew1) | exact HB.out)))); have n1_ := Aside0.mk (below_step (by repeat (first | (with_reducible first | exact HB.out | apply below_alloc | apply pw_below_drewN | apply below_drew1) | exact HB.out)) hb); clear HB; have HO619 := n0_; have HB := n1_; clear n0_ n1_; clear hb ho6; have hcv7 := own_string (P := Tryd.prog) Tryd.underlying68 Tryd.underlying5 Tryd.underlying9 (Kd.own_of_R HO619.out)))
          go_roundg k1
          case measure => have := HK1.out; omega
          case rel => exact ⟨(IntKind.u64.wrap (Int.tdiv x0_1 10)), ((strOfNums y617) ++ x5_1), (by first | rfl | (simp; done) | (simp [*]; done)), (by first | rfl | (simp; done) | (simp [*]; done)), H', ⟨by have := HK1.out; omega⟩, ⟨by repeat (first | (with_reducible first | exact HB.out | apply below_alloc | apply pw_below_drewN | apply below_drew1) | exact HB.out)⟩⟩
        · rw [if_neg c4] at H
          exact absurd H (by simp)
      · rw [if_neg c3] at H
        have c3b0 : decide (0 < x0_1) = false := decide_eq_false c3
        clear c3
        by_cases c8 : (x5_1.size : Int) < a1
        · rw [if_pos c8] at H
          have c8b0 : decide ((x5_1.size : Int) < a1) = true := decide_eq_true c8
          clear c8
          obtain ⟨y620, hy620⟩ : ∃ y_ : List Int, y_ = (([(IntKind.u64.wrap (48 + (Int.tmod x0_1 10))) % 256] : List Int)) := ⟨_, rfl⟩
          replace H : (if (strOfNums y620).size + x5_1.size ≤ 9223372036854775807 then (chanceryref17_digits.l0 k1 (IntKind.u64.wrap (Int.tdiv x0_1 10)) a1 ((strOfNums y620) ++ x5_1)) else (none)) = some r := by first | (rw [hy620]; with_reducible exact H) | (have H2_ := (Option.bind_some _ _).symm.trans H; rw [hy620]; with_reducible exact H2_) | (have H2_ := (Option.bind_some _ _).symm.trans H; with_reducible exact H2_) | with_reducible exact H | (rw [hy620]; exact H) | exact H
          have Ny620 := Aside0.mk hy620
          clear hy620
          by_cases c9 : (strOfNums y620).size + x5_1.size ≤ 9223372036854775807
          · rw [if_pos c9] at H
            have c9b0 := eq_true c9
            have c9b1 : decide ((strOfNums y620).size + x5_1.size ≤ 9223372036854775807) = true := decide_eq_true c9
            try have c9b2 : (9223372036854775807 < (strOfNums y620).size + x5_1.size) = False := eq_false (Nat.not_lt.2 c9)
            have H' := Aside0.mk H
            clear H
            go_wp2_with (first | ((with_reducible refine gate_dst (N := 18) rfl ?_); (try (refine gate_guard (by rfl) ?_; dsimp only)); refine Kd.R_lit (Kd.int .u8) _ 5 ?hg (N := 18) ?hd (xs := ([(IntKind.u64.wrap (48 + (Int.tmod x0_1 10))) % 256] : List Int)) (inner := [.int .u8 ((IntKind.u64.wrap (48 + (Int.tmod x0_1 10))) % 256)]) (ok := fun _ => True) (okp := fun _ => True) ?hr ?hp (fun _ hk => hk) trivial (Below.refl _ _) (Nat.le_refl _) (by simp) ?_; (case hd => rfl); (case hg => rfl); (case hr => first | (go_simp; done) | (go_simp; rfl)); (case hp => exact (Reps.one (show Kd.M (Kd.int .u8) _ _ _ ((IntKind.u64.wrap (48 + (Int.tmod x0_1 10))) % 256) [.int .u8 ((IntKind.u64.wrap (48 + (Int.tmod x0_1 10))) % 256)] from rfl) (Reps.none _ _))); intro v621 w10 ho11 hb hg_ hnew_; clear hg_ hnew_; (first | rw [← Ny620.out] at ho11 | (simp only [Int.reduceToNat] at ho11; rw [← Ny620.out] at ho11)); have n0_ := Aside0.mk (Kd.R_lower ho11 (below_size (by repeat (first | (with_reducible first | exact HB.out | apply below_alloc | apply pw_below_drewN | apply below_drew1) | exact HB.out)))); have n1_ := Aside0.mk (below_step (by repeat (first | (with_reducible first | exact HB.out | apply below_alloc | apply pw_below_drewN | apply below_drew1) | exact HB.out)) hb); clear HB; have HO622 := n0_; have HB := n1_; clear n0_ n1_; clear hb ho11; have hcv12 := own_string (P := Tryd.prog) Tryd.underlying68 Tryd.underlying5 Tryd.underlying9 (Kd.own_of_R HO622.out)))
            go_roundg k1
            case measure => have := HK1.out; omega
            case rel => exact ⟨(IntKind.u64.wrap (Int.tdiv x0_1 10)), ((strOfNums y620) ++ x5_1), (by first | rfl | (simp; done) | (simp [*]; done)), (by first | rfl | (simp; done) | (simp [*]; done)), H', ⟨by have := HK1.out; omega⟩, ⟨by repeat (first | (with_reducible first | exact HB.out | apply below_alloc | apply pw_below_drewN | apply below_drew1) | exact HB.out)⟩⟩
          · rw [if_neg c9] at H
            exact absurd H (by simp)
        · rw [if_neg c8] at H
          have c8b0 : decide ((x5_1.size : Int) < a1) = false := decide_eq_false c8
          clear c8
          obtain rfl := Option.some.inj H
          go_wp2
          go_ret
          exact ⟨by first | rfl | (simp [errW_none, errW_some] <;> rfl) | (simp [*, errW_none, errW_some] <;> rfl), by repeat (first | (with_reducible first | exact HB.out | apply below_alloc | apply pw_below_drewN | apply below_drew1) | exact HB.out)⟩
end Go.Proofs.YtbodlnoipkommaaDoor.Q
namespace Go.Proofs.YtbodlnoipkommaaDoor.Q
open Go.RowKit Go.Proofs.YtbodlnoipkommaaDoorW.PrintWords Go.Proofs.YtbodlnoipkommaaDoorW.PrintLast Go.Proofs.YtbodlnoipkommaaDoorW.PrintMore
attribute [local go_sem] max2_int min2_int max_two min_two max_three min_three max_four min_four   -- for this text's walks alone
set_option linter.unusedVariables false
set_option linter.unusedSimpArgs false
mutual
def chanceryref17_Print.j0 : Nat → Int → ByteArray → Int → Int → ByteArray → Option (ByteArray)
  | 0, _, _, _, _, _ => none
  | k + 1, x3, x4, x624000, x624001, x624002 => if x624000 = 0 then (some (⟨#[110, 117, 108, 108]⟩ : ByteArray)) else (if x624000 = 1 then (if x624001 = 1 then (some (⟨#[116, 114, 117, 101]⟩ : ByteArray)) else (some (⟨#[102, 97, 108, 115, 101]⟩ : ByteArray))) else (if x624000 = 2 then ((chanceryref17_digits.f k x3 1).bind fun t625 => (if x4.size + t625.size ≤ 9223372036854775807 then (some (x4 ++ t625)) else (none))) else (if x624000 = 3 then ((chanceryref17_digits.f k (IntKind.u64.wrap (Int.tdiv x3 10000)) 1).bind fun t626 => (if x4.size + t626.size ≤ 9223372036854775807 then (if (x4 ++ t626).size + 1 ≤ 9223372036854775807 then ((chanceryref17_digits.f k (Int.tmod x3 10000) 4).bind fun t627 => (if ((x4 ++ t626) ++ (⟨#[46]⟩ : ByteArray)).size + t627.size ≤ 9223372036854775807 then (some (((x4 ++ t626) ++ (⟨#[46]⟩ : ByteArray)) ++ t627)) else (none))) else (none)) else (none))) else (if x624000 = 4 then (chanceryref17_Print.l0 k (⟨#[39]⟩ : ByteArray) 0 x624000 x624001 x624002) else (chanceryref17_Print.l1 k (⟨#[120, 39]⟩ : ByteArray) 0 x624000 x624001 x624002)))))
def chanceryref17_Print.l0 : Nat → ByteArray → Int → Int → Int → ByteArray → Option (ByteArray)
  | 0, _, _, _, _, _ => none
  | k + 1, x5, x6, x624000, x624001, x624002 => if x6 < (x624002.size : Int) then (if 0 ≤ x6 then (if (bt x624002 x6) = 39 then (if x5.size + 1 ≤ 9223372036854775807 then (if x6 ≤ (wrap64 (x6 + 1)) then (if (wrap64 (x6 + 1)) ≤ (x624002.size : Int) then (if (x5 ++ (⟨#[39]⟩ : ByteArray)).size + (x624002.extract (x6 : Int).toNat ((wrap64 (x6 + 1)) : Int).toNat).size ≤ 9223372036854775807 then (chanceryref17_Print.l0 k ((x5 ++ (⟨#[39]⟩ : ByteArray)) ++ (x624002.extract (x6 : Int).toNat ((wrap64 (x6 + 1)) : Int).toNat)) (wrap64 (x6 + 1)) x624000 x624001 x624002) else (none)) else (none)) else (none)) else (none)) else (if x6 ≤ (wrap64 (x6 + 1)) then (if (wrap64 (x6 + 1)) ≤ (x624002.size : Int) then (if x5.size + (x624002.extract (x6 : Int).toNat ((wrap64 (x6 + 1)) : Int).toNat).size ≤ 9223372036854775807 then (chanceryref17_Print.l0 k (x5 ++ (x624002.extract (x6 : Int).toNat ((wrap64 (x6 + 1)) : Int).toNat)) (wrap64 (x6 + 1)) x624000 x624001 x624002) else (none)) else (none)) else (none))) else (none)) else (if x5.size + 1 ≤ 9223372036854775807 then (some (x5 ++ (⟨#[39]⟩ : ByteArray))) else (none))
def chanceryref17_Print.l1 : Nat → ByteArray → Int → Int → Int → ByteArray → Option (ByteArray)
  | 0, _, _, _, _, _ => none
  | k + 1, x7, x8, x624000, x624001, x624002 => if x8 < (x624002.size : Int) then (if 0 ≤ x8 then (if 0 ≤ ((Int.tdiv (bt x624002 x8) 16) % 256) then (if ((Int.tdiv (bt x624002 x8) 16) % 256) ≤ ((((Int.tdiv (bt x624002 x8) 16) % 256) + 1) % 256) then (if ((((Int.tdiv (bt x624002 x8) 16) % 256) + 1) % 256) ≤ 16 then (if x7.size + ((⟨#[48, 49, 50, 51, 52, 53, 54, 55, 56, 57, 97, 98, 99, 100, 101, 102]⟩ : ByteArray).extract (((Int.tdiv (bt x624002 x8) 16) % 256) : Int).toNat (((((Int.tdiv (bt x624002 x8) 16) % 256) + 1) % 256) : Int).toNat).size ≤ 9223372036854775807 then (if 0 ≤ (Int.tmod (bt x624002 x8) 16) then (if (Int.tmod (bt x624002 x8) 16) ≤ (((Int.tmod (bt x624002 x8) 16) + 1) % 256) then (if (((Int.tmod (bt x624002 x8) 16) + 1) % 256) ≤ 16 then (if (x7 ++ ((⟨#[48, 49, 50, 51, 52, 53, 54, 55, 56, 57, 97, 98, 99, 100, 101, 102]⟩ : ByteArray).extract (((Int.tdiv (bt x624002 x8) 16) % 256) : Int).toNat (((((Int.tdiv (bt x624002 x8) 16) % 256) + 1) % 256) : Int).toNat)).size + ((⟨#[48, 49, 50, 51, 52, 53, 54, 55, 56, 57, 97, 98, 99, 100, 101, 102]⟩ : ByteArray).extract ((Int.tmod (bt x624002 x8) 16) : Int).toNat ((((Int.tmod (bt x624002 x8) 16) + 1) % 256) : Int).toNat).size ≤ 9223372036854775807 then (chanceryref17_Print.l1 k ((x7 ++ ((⟨#[48, 49, 50, 51, 52, 53, 54, 55, 56, 57, 97, 98, 99, 100, 101, 102]⟩ : ByteArray).extract (((Int.tdiv (bt x624002 x8) 16) % 256) : Int).toNat (((((Int.tdiv (bt x624002 x8) 16) % 256) + 1) % 256) : Int).toNat)) ++ ((⟨#[48, 49, 50, 51, 52, 53, 54, 55, 56, 57, 97, 98, 99, 100, 101, 102]⟩ : ByteArray).extract ((Int.tmod (bt x624002 x8) 16) : Int).toNat ((((Int.tmod (bt x624002 x8) 16) + 1) % 256) : Int).toNat)) (wrap64 (x8 + 1)) x624000 x624001 x624002) else (none)) else (none)) else (none)) else (none)) else (none)) else (none)) else (none)) else (none)) else (none)) else (if x7.size + 1 ≤ 9223372036854775807 then (some (x7 ++ (⟨#[39]⟩ : ByteArray))) else (none))
end
def chanceryref17_Print.f (k : Nat) (a0_0 : Int) (a0_1 : Int) (a0_2 : ByteArray) : Option (ByteArray) := (chanceryref17_Right.f k a0_0 a0_1 a0_2).bind fun t624 => (if t624 = true then (if a0_1 < 0 then (chanceryref17_Print.j0 k (IntKind.u64.wrap (-(IntKind.u64.wrap (a0_1)))) (⟨#[45]⟩ : ByteArray) a0_0 a0_1 a0_2) else (chanceryref17_Print.j0 k (IntKind.u64.wrap (a0_1)) (⟨#[]⟩ : ByteArray) a0_0 a0_1 a0_2)) else (some (⟨#[]⟩ : ByteArray)))
set_option maxHeartbeats 8000000 in
set_option maxRecDepth 100000 in
theorem chanceryref17_Print.calls (k : Nat) (a0_0 : Int) (a0_1 : Int) (a0_2 : ByteArray) (r : ByteArray) (w : World) (h : chanceryref17_Print.f k a0_0 a0_1 a0_2 = some r) :
    Calls Tryd.prog 33 #[.agg #[.int .u8 a0_0, .int .i64 a0_1, .string a0_2]] w fun e w' => e = .returned (.string r) ∧ Below w.heap.size w w' := by
  have hu25 := Tryd.underlying25
  have HB := Aside0.mk (Below.refl w.heap.size w)
  have H : ((chanceryref17_Right.f k a0_0 a0_1 a0_2).bind fun t624 => (if t624 = true then (if a0_1 < 0 then (chanceryref17_Print.j0 k (IntKind.u64.wrap (-(IntKind.u64.wrap (a0_1)))) (⟨#[45]⟩ : ByteArray) a0_0 a0_1 a0_2) else (chanceryref17_Print.j0 k (IntKind.u64.wrap (a0_1)) (⟨#[]⟩ : ByteArray) a0_0 a0_1 a0_2)) else (some (⟨#[]⟩ : ByteArray)))) = some r := h
  clear h
  replace H := Option.bind_eq_some_iff.mp H
  obtain ⟨t624, A20, H⟩ := H
  replace H : (if t624 = true then (if a0_1 < 0 then (chanceryref17_Print.j0 k (IntKind.u64.wrap (-(IntKind.u64.wrap (a0_1)))) (⟨#[45]⟩ : ByteArray) a0_0 a0_1 a0_2) else (chanceryref17_Print.j0 k (IntKind.u64.wrap (a0_1)) (⟨#[]⟩ : ByteArray) a0_0 a0_1 a0_2)) else (some (⟨#[]⟩ : ByteArray))) = some r := H
  have A2 := Aside0.mk A20
  clear A20
  by_cases c3 : t624 = true
  · subst c3
    have H1 : (if a0_1 < 0 then (chanceryref17_Print.j0 k (IntKind.u64.wrap (-(IntKind.u64.wrap (a0_1)))) (⟨#[45]⟩ : ByteArray) a0_0 a0_1 a0_2) else (chanceryref17_Print.j0 k (IntKind.u64.wrap (a0_1)) (⟨#[]⟩ : ByteArray) a0_0 a0_1 a0_2)) = some r := by rw [if_pos rfl] at H; exact H
    clear H
    have H := H1
    clear H1
    have HC4 := Aside0.mk H
    clear H
    go_enter Tryd.func33, Tryd.ntmps33
    go_upto_if 17 with (first | ((with_reducible refine gate_dst (N := 1) rfl ?_); refine box_event ?hg (N := 1) ?hd (cs := #[.int .u8 a0_0, .int .i64 a0_1, .string a0_2]) (t := 25) ?hr ?_; (case hd => rfl); (case hg => rfl); (case hr => first | (go_simp; done) | (go_simp; rfl)); intro gb623 hg w5 hbox hb; have n0_ := Aside0.mk (below_step (by repeat (first | (with_reducible first | exact HB.out | apply below_alloc | apply pw_below_drewN | apply below_drew1) | exact HB.out)) hb); have n1_ := Aside0.mk (hbox); have n2_ := Aside0.mk ((by rw [hg]; exact (below_size (by repeat (first | (with_reducible first | exact HB.out | apply below_alloc | apply pw_below_drewN | apply below_drew1) | exact HB.out))) : w.heap.size ≤ gb623)); have n3_ := Aside0.mk ((by rw [hg]; exact (below_size (by repeat (first | (with_reducible first | exact HB.out | apply below_alloc | apply pw_below_drewN | apply below_drew1) | exact HB.out))) : w.heap.size ≤ gb623)); clear HB; have HB := n0_; have BK623 := n1_; have GW623 := n2_; have GE623 := n3_; clear n0_ n1_ n2_ n3_; clear hb hbox hg; have hcz6_0 : w5.cell? ⟨gb623, 0, none⟩ = some (.int .u8 a0_0) := (blk_cell BK623.out 0).trans rfl; have hcz6_1 : w5.cell? ⟨gb623, 1, none⟩ = some (.int .i64 a0_1) := (blk_cell BK623.out 1).trans rfl; have hcz6_2 : w5.cell? ⟨gb623, 2, none⟩ = some (.string a0_2) := (blk_cell BK623.out 2).trans rfl; have hfz6_0 := blk_frozen BK623.out 0; have hfz6_1 := blk_frozen BK623.out 1; have hfz6_2 := blk_frozen BK623.out 2) | (go_at_call 14; (with_reducible refine (chanceryref17_Right.calls k a0_0 a0_1 a0_2 true _ A2.out).mono ?_); rintro e w7 ⟨rfl, hb⟩; have n0_ := Aside0.mk (blk_below (g := gb623) (o := .cells #[.int .u8 a0_0, .int .i64 a0_1, .string a0_2] 25 (0, 0)) (by (with_reducible repeat (first | refine blk_drewN ?_ _ | refine blk_drew ?_ | refine blk_alloc ?_ _)); exact BK623.out) hb); have n1_ := Aside0.mk (below_step (by repeat (first | (with_reducible first | exact HB.out | apply below_alloc | apply pw_below_drewN | apply below_drew1 | refine below_set ?_ GE623.out) | exact HB.out)) hb); clear BK623; clear HB; have BK623 := n0_; have HB := n1_; clear n0_ n1_; (try clear hb); (try clear hb2); (try clear hk); (try clear hi); have hcz8_0 : w7.cell? ⟨gb623, 0, none⟩ = some (.int .u8 a0_0) := (blk_cell BK623.out 0).trans rfl; have hcz8_1 : w7.cell? ⟨gb623, 1, none⟩ = some (.int .i64 a0_1) := (blk_cell BK623.out 1).trans rfl; have hcz8_2 : w7.cell? ⟨gb623, 2, none⟩ = some (.string a0_2) := (blk_cell BK623.out 2).trans rfl; have hfz8_0 := blk_frozen BK623.out 0; have hfz8_1 := blk_frozen BK623.out 1; have hfz8_2 := blk_frozen BK623.out 2))
    repeat (go_quiet (first | ((with_reducible refine gate_dst (N := 1) rfl ?_); refine box_event ?hg (N := 1) ?hd (cs := #[.int .u8 a0_0, .int .i64 a0_1, .string a0_2]) (t := 25) ?hr ?_; (case hd => rfl); (case hg => rfl); (case hr => first | (go_simp; done) | (go_simp; rfl)); intro gb623 hg w5 hbox hb; have n0_ := Aside0.mk (below_step (by repeat (first | (with_reducible first | exact HB.out | apply below_alloc | apply pw_below_drewN | apply below_drew1) | exact HB.out)) hb); have n1_ := Aside0.mk (hbox); have n2_ := Aside0.mk ((by rw [hg]; exact (below_size (by repeat (first | (with_reducible first | exact HB.out | apply below_alloc | apply pw_below_drewN | apply below_drew1) | exact HB.out))) : w.heap.size ≤ gb623)); have n3_ := Aside0.mk ((by rw [hg]; exact (below_size (by repeat (first | (with_reducible first | exact HB.out | apply below_alloc | apply pw_below_drewN | apply below_drew1) | exact HB.out))) : w.heap.size ≤ gb623)); clear HB; have HB := n0_; have BK623 := n1_; have GW623 := n2_; have GE623 := n3_; clear n0_ n1_ n2_ n3_; clear hb hbox hg; have hcz6_0 : w5.cell? ⟨gb623, 0, none⟩ = some (.int .u8 a0_0) := (blk_cell BK623.out 0).trans rfl; have hcz6_1 : w5.cell? ⟨gb623, 1, none⟩ = some (.int .i64 a0_1) := (blk_cell BK623.out 1).trans rfl; have hcz6_2 : w5.cell? ⟨gb623, 2, none⟩ = some (.string a0_2) := (blk_cell BK623.out 2).trans rfl; have hfz6_0 := blk_frozen BK623.out 0; have hfz6_1 := blk_frozen BK623.out 1; have hfz6_2 := blk_frozen BK623.out 2) | (go_at_call 14; (with_reducible refine (chanceryref17_Right.calls k a0_0 a0_1 a0_2 true _ A2.out).mono ?_); rintro e w7 ⟨rfl, hb⟩; have n0_ := Aside0.mk (blk_below (g := gb623) (o := .cells #[.int .u8 a0_0, .int .i64 a0_1, .string a0_2] 25 (0, 0)) (by (with_reducible repeat (first | refine blk_drewN ?_ _ | refine blk_drew ?_ | refine blk_alloc ?_ _)); exact BK623.out) hb); have n1_ := Aside0.mk (below_step (by repeat (first | (with_reducible first | exact HB.out | apply below_alloc | apply pw_below_drewN | apply below_drew1 | refine below_set ?_ GE623.out) | exact HB.out)) hb); clear BK623; clear HB; have BK623 := n0_; have HB := n1_; clear n0_ n1_; (try clear hb); (try clear hb2); (try clear hk); (try clear hi); have hcz8_0 : w7.cell? ⟨gb623, 0, none⟩ = some (.int .u8 a0_0) := (blk_cell BK623.out 0).trans rfl; have hcz8_1 : w7.cell? ⟨gb623, 1, none⟩ = some (.int .i64 a0_1) := (blk_cell BK623.out 1).trans rfl; have hcz8_2 : w7.cell? ⟨gb623, 2, none⟩ = some (.string a0_2) := (blk_cell BK623.out 2).trans rfl; have hfz8_0 := blk_frozen BK623.out 0; have hfz8_1 := blk_frozen BK623.out 1; have hfz8_2 := blk_frozen BK623.out 2)); go_upto_if 17 with (first | ((with_reducible refine gate_dst (N := 1) rfl ?_); refine box_event ?hg (N := 1) ?hd (cs := #[.int .u8 a0_0, .int .i64 a0_1, .string a0_2]) (t := 25) ?hr ?_; (case hd => rfl); (case hg => rfl); (case hr => first | (go_simp; done) | (go_simp; rfl)); intro gb623 hg w5 hbox hb; have n0_ := Aside0.mk (below_step (by repeat (first | (with_reducible first | exact HB.out | apply below_alloc | apply pw_below_drewN | apply below_drew1) | exact HB.out)) hb); have n1_ := Aside0.mk (hbox); have n2_ := Aside0.mk ((by rw [hg]; exact (below_size (by repeat (first | (with_reducible first | exact HB.out | apply below_alloc | apply pw_below_drewN | apply below_drew1) | exact HB.out))) : w.heap.size ≤ gb623)); have n3_ := Aside0.mk ((by rw [hg]; exact (below_size (by repeat (first | (with_reducible first | exact HB.out | apply below_alloc | apply pw_below_drewN | apply below_drew1) | exact HB.out))) : w.heap.size ≤ gb623)); clear HB; have HB := n0_; have BK623 := n1_; have GW623 := n2_; have GE623 := n3_; clear n0_ n1_ n2_ n3_; clear hb hbox hg; have hcz6_0 : w5.cell? ⟨gb623, 0, none⟩ = some (.int .u8 a0_0) := (blk_cell BK623.out 0).trans rfl; have hcz6_1 : w5.cell? ⟨gb623, 1, none⟩ = some (.int .i64 a0_1) := (blk_cell BK623.out 1).trans rfl; have hcz6_2 : w5.cell? ⟨gb623, 2, none⟩ = some (.string a0_2) := (blk_cell BK623.out 2).trans rfl; have hfz6_0 := blk_frozen BK623.out 0; have hfz6_1 := blk_frozen BK623.out 1; have hfz6_2 := blk_frozen BK623.out 2) | (go_at_call 14; (with_reducible refine (chanceryref17_Right.calls k a0_0 a0_1 a0_2 true _ A2.out).mono ?_); rintro e w7 ⟨rfl, hb⟩; have n0_ := Aside0.mk (blk_below (g := gb623) (o := .cells #[.int .u8 a0_0, .int .i64 a0_1, .string a0_2] 25 (0, 0)) (by (with_reducible repeat (first | refine blk_drewN ?_ _ | refine blk_drew ?_ | refine blk_alloc ?_ _)); exact BK623.out) hb); have n1_ := Aside0.mk (below_step (by repeat (first | (with_reducible first | exact HB.out | apply below_alloc | apply pw_below_drewN | apply below_drew1 | refine below_set ?_ GE623.out) | exact HB.out)) hb); clear BK623; clear HB; have BK623 := n0_; have HB := n1_; clear n0_ n1_; (try clear hb); (try clear hb2); (try clear hk); (try clear hi); have hcz8_0 : w7.cell? ⟨gb623, 0, none⟩ = some (.int .u8 a0_0) := (blk_cell BK623.out 0).trans rfl; have hcz8_1 : w7.cell? ⟨gb623, 1, none⟩ = some (.int .i64 a0_1) := (blk_cell BK623.out 1).trans rfl; have hcz8_2 : w7.cell? ⟨gb623, 2, none⟩ = some (.string a0_2) := (blk_cell BK623.out 2).trans rfl; have hfz8_0 := blk_frozen BK623.out 0; have hfz8_1 := blk_frozen BK623.out 1; have hfz8_2 := blk_frozen BK623.out 2)))
    (try simp only [Act.put, List.setIfInBounds_toArray, List.set_cons_zero, List.set_cons_succ])
    go_cut [3, 4] (fun v3 v4 wc => ∃ (kq : Nat) (x3_3 : Int) (x4_3 : ByteArray), v3 = .int .u64 x3_3 ∧ v4 = .string x4_3 ∧ Aside0 (chanceryref17_Print.j0 kq x3_3 x4_3 a0_0 a0_1 a0_2 = some r) ∧ Aside0 (kq ≤ k) ∧ Aside0 (wc.heap[gb623]? = some (.cells #[.int .u8 a0_0, .int .i64 a0_1, .string a0_2] 25 (0, 0))) ∧ Aside0 (Below w.heap.size w wc))
    case first =>
      have H := HC4.out
      clear HC4
      by_cases c9 : a0_1 < 0
      · rw [if_pos c9] at H
        have c9b0 : decide (a0_1 < 0) = true := decide_eq_true c9
        clear c9
        (first | rw [c9b0] | (simp only [i64_w, i32_w]; rw [c9b0]) | skip)
        have H' := Aside0.mk H
        clear H
        go_wp2
        repeat (go_quiet (fail); try go_wp2)
        go_meet
        case rel => exact ⟨_, (IntKind.u64.wrap (-(IntKind.u64.wrap (a0_1)))), ((⟨#[45]⟩ : ByteArray)), (by first | rfl | (simp; done) | (simp [*]; done)), (by first | rfl | (simp; done) | (simp [*]; done)), H', ⟨by first | omega | exact Nat.le_refl _⟩, ⟨by (with_reducible repeat (first | refine blk_drewN ?_ _ | refine blk_drew ?_ | refine blk_alloc ?_ _)); exact BK623.out⟩, ⟨by repeat (first | (with_reducible first | exact HB.out | apply below_alloc | apply pw_below_drewN | apply below_drew1 | refine below_set ?_ GE623.out) | exact HB.out)⟩⟩
      · rw [if_neg c9] at H
        have c9b0 : decide (a0_1 < 0) = false := decide_eq_false c9
        clear c9
        (first | rw [c9b0] | (simp only [i64_w, i32_w]; rw [c9b0]) | skip)
        have H' := Aside0.mk H
        clear H
        go_wp2
        repeat (go_quiet (fail); try go_wp2)
        go_meet
        case rel => exact ⟨_, (IntKind.u64.wrap (a0_1)), ((⟨#[]⟩ : ByteArray)), (by first | rfl | (simp; done) | (simp [*]; done)), (by first | rfl | (simp; done) | (simp [*]; done)), H', ⟨by first | omega | exact Nat.le_refl _⟩, ⟨by (with_reducible repeat (first | refine blk_drewN ?_ _ | refine blk_drew ?_ | refine blk_alloc ?_ _)); exact BK623.out⟩, ⟨by repeat (first | (with_reducible first | exact HB.out | apply below_alloc | apply pw_below_drewN | apply below_drew1 | refine below_set ?_ GE623.out) | exact HB.out)⟩⟩
    case rest =>
      clear HC4
      try clear p2
      try clear c3
      try clear c9
      try clear c9b0
      try clear hcz6_0
      try clear hcz6_1
      try clear hcz6_2
      try clear hcz8_0
      try clear hcz8_1
      try clear hcz8_2
      try clear hfz6_0
      try clear hfz6_1
      try clear hfz6_2
      try clear hfz8_0
      try clear hfz8_1
      try clear hfz8_2
      obtain ⟨kq, x3_3, x4_3, rfl, rfl, HA, HJ3, BK623, HB⟩ := hcut
      cases kq with
      | zero => exact absurd HA.out (by simp [chanceryref17_Print.j0])
      | succ kj3 =>
        have H := HA.out
        clear HA
        simp only [chanceryref17_Print.j0] at H
        by_cases c10 : a0_0 = 0
        · rw [if_pos c10] at H
          have c10b0 : (a0_0 == 0) = true := beq_iff_eq.mpr c10
          have c10b1 : (a0_0 != 0) = false := bne_eq_false_iff_eq.mpr c10
          clear c10
          obtain rfl := Option.some.inj H
          have hcz11_0 : wc.cell? ⟨gb623, 0, none⟩ = some (.int .u8 a0_0) := (blk_cell BK623.out 0).trans rfl
          have hcz11_1 : wc.cell? ⟨gb623, 1, none⟩ = some (.int .i64 a0_1) := (blk_cell BK623.out 1).trans rfl
          have hcz11_2 : wc.cell? ⟨gb623, 2, none⟩ = some (.string a0_2) := (blk_cell BK623.out 2).trans rfl
          have hfz11_0 := blk_frozen BK623.out 0
          have hfz11_1 := blk_frozen BK623.out 1
          have hfz11_2 := blk_frozen BK623.out 2
          go_wp2
          repeat (go_quiet (fail); try go_wp2)
          go_ret
          exact ⟨by first | rfl | (simp [errW_none, errW_some] <;> rfl) | (simp [*, errW_none, errW_some] <;> rfl), by repeat (first | (with_reducible first | exact HB.out | apply below_alloc | apply pw_below_drewN | apply below_drew1 | refine below_set ?_ GE623.out) | exact HB.out)⟩
        · rw [if_neg c10] at H
          have c10b0 : (a0_0 == 0) = false := beq_eq_false_iff_ne.mpr c10
          have c10b1 : (a0_0 != 0) = true := bne_iff_ne.mpr c10
          by_cases c12 : a0_0 = 1
          · rw [if_pos c12] at H
            have c12b0 : (a0_0 == 1) = true := beq_iff_eq.mpr c12
            have c12b1 : (a0_0 != 1) = false := bne_eq_false_iff_eq.mpr c12
            clear c12
            by_cases c13 : a0_1 = 1
            · rw [if_pos c13] at H
              have c13b0 : (a0_1 == 1) = true := beq_iff_eq.mpr c13
              have c13b1 : (a0_1 != 1) = false := bne_eq_false_iff_eq.mpr c13
              clear c13
              obtain rfl := Option.some.inj H
              have hcz14_0 : wc.cell? ⟨gb623, 0, none⟩ = some (.int .u8 a0_0) := (blk_cell BK623.out 0).trans rfl
              have hcz14_1 : wc.cell? ⟨gb623, 1, none⟩ = some (.int .i64 a0_1) := (blk_cell BK623.out 1).trans rfl
              have hcz14_2 : wc.cell? ⟨gb623, 2, none⟩ = some (.string a0_2) := (blk_cell BK623.out 2).trans rfl
              have hfz14_0 := blk_frozen BK623.out 0
              have hfz14_1 := blk_frozen BK623.out 1
              have hfz14_2 := blk_frozen BK623.out 2
              go_wp2
              repeat (go_quiet (fail); try go_wp2)
              go_ret
              exact ⟨by first | rfl | (simp [errW_none, errW_some] <;> rfl) | (simp [*, errW_none, errW_some] <;> rfl), by repeat (first | (with_reducible first | exact HB.out | apply below_alloc | apply pw_below_drewN | apply below_drew1 | refine below_set ?_ GE623.out) | exact HB.out)⟩
            · rw [if_neg c13] at H
              have c13b0 : (a0_1 == 1) = false := beq_eq_false_iff_ne.mpr c13
              have c13b1 : (a0_1 != 1) = true := bne_iff_ne.mpr c13
              obtain rfl := Option.some.inj H
              have hcz15_0 : wc.cell? ⟨gb623, 0, none⟩ = some (.int .u8 a0_0) := (blk_cell BK623.out 0).trans rfl
              have hcz15_1 : wc.cell? ⟨gb623, 1, none⟩ = some (.int .i64 a0_1) := (blk_cell BK623.out 1).trans rfl
              have hcz15_2 : wc.cell? ⟨gb623, 2, none⟩ = some (.string a0_2) := (blk_cell BK623.out 2).trans rfl
              have hfz15_0 := blk_frozen BK623.out 0
              have hfz15_1 := blk_frozen BK623.out 1
              have hfz15_2 := blk_frozen BK623.out 2
              go_wp2
              repeat (go_quiet (fail); try go_wp2)
              go_ret
              exact ⟨by first | rfl | (simp [errW_none, errW_some] <;> rfl) | (simp [*, errW_none, errW_some] <;> rfl), by repeat (first | (with_reducible first | exact HB.out | apply below_alloc | apply pw_below_drewN | apply below_drew1 | refine below_set ?_ GE623.out) | exact HB.out)⟩
          · rw [if_neg c12] at H
            have c12b0 : (a0_0 == 1) = false := beq_eq_false_iff_ne.mpr c12
            have c12b1 : (a0_0 != 1) = true := bne_iff_ne.mpr c12
            by_cases c16 : a0_0 = 2
            · rw [if_pos c16] at H
              have c16b0 : (a0_0 == 2) = true := beq_iff_eq.mpr c16
              have c16b1 : (a0_0 != 2) = false := bne_eq_false_iff_eq.mpr c16
              clear c16
              replace H := Option.bind_eq_some_iff.mp H
              obtain ⟨t625, A170, H⟩ := H
              replace H : (if x4_3.size + t625.size ≤ 9223372036854775807 then (some (x4_3 ++ t625)) else (none)) = some r := H
              have A17 := Aside0.mk A170
              clear A170
              by_cases c18 : x4_3.size + t625.size ≤ 9223372036854775807
              · rw [if_pos c18] at H
                have c18b0 := eq_true c18
                have c18b1 : decide (x4_3.size + t625.size ≤ 9223372036854775807) = true := decide_eq_true c18
                try have c18b2 : (9223372036854775807 < x4_3.size + t625.size) = False := eq_false (Nat.not_lt.2 c18)
                obtain rfl := Option.some.inj H
                have hcz19_0 : wc.cell? ⟨gb623, 0, none⟩ = some (.int .u8 a0_0) := (blk_cell BK623.out 0).trans rfl
                have hcz19_1 : wc.cell? ⟨gb623, 1, none⟩ = some (.int .i64 a0_1) := (blk_cell BK623.out 1).trans rfl
                have hcz19_2 : wc.cell? ⟨gb623, 2, none⟩ = some (.string a0_2) := (blk_cell BK623.out 2).trans rfl
                have hfz19_0 := blk_frozen BK623.out 0
                have hfz19_1 := blk_frozen BK623.out 1
                have hfz19_2 := blk_frozen BK623.out 2
                go_wp2_with (first | (go_at_call 70; (with_reducible refine (chanceryref17_digits.calls kj3 x3_3 1 t625 _ A17.out).mono ?_); rintro e w20 ⟨rfl, hb⟩; have n0_ := Aside0.mk (blk_below (g := gb623) (o := .cells #[.int .u8 a0_0, .int .i64 a0_1, .string a0_2] 25 (0, 0)) (by (with_reducible repeat (first | refine blk_drewN ?_ _ | refine blk_drew ?_ | refine blk_alloc ?_ _)); exact BK623.out) hb); have n1_ := Aside0.mk (below_step (by repeat (first | (with_reducible first | exact HB.out | apply below_alloc | apply pw_below_drewN | apply below_drew1 | refine below_set ?_ GE623.out) | exact HB.out)) hb); clear BK623; clear HB; have BK623 := n0_; have HB := n1_; clear n0_ n1_; (try clear hb); (try clear hb2); (try clear hk); (try clear hi)))
                repeat (go_quiet (first | (go_at_call 70; (with_reducible refine (chanceryref17_digits.calls kj3 x3_3 1 t625 _ A17.out).mono ?_); rintro e w20 ⟨rfl, hb⟩; have n0_ := Aside0.mk (blk_below (g := gb623) (o := .cells #[.int .u8 a0_0, .int .i64 a0_1, .string a0_2] 25 (0, 0)) (by (with_reducible repeat (first | refine blk_drewN ?_ _ | refine blk_drew ?_ | refine blk_alloc ?_ _)); exact BK623.out) hb); have n1_ := Aside0.mk (below_step (by repeat (first | (with_reducible first | exact HB.out | apply below_alloc | apply pw_below_drewN | apply below_drew1 | refine below_set ?_ GE623.out) | exact HB.out)) hb); clear BK623; clear HB; have BK623 := n0_; have HB := n1_; clear n0_ n1_; (try clear hb); (try clear hb2); (try clear hk); (try clear hi))); try go_wp2_with (first | (go_at_call 70; (with_reducible refine (chanceryref17_digits.calls kj3 x3_3 1 t625 _ A17.out).mono ?_); rintro e w20 ⟨rfl, hb⟩; have n0_ := Aside0.mk (blk_below (g := gb623) (o := .cells #[.int .u8 a0_0, .int .i64 a0_1, .string a0_2] 25 (0, 0)) (by (with_reducible repeat (first | refine blk_drewN ?_ _ | refine blk_drew ?_ | refine blk_alloc ?_ _)); exact BK623.out) hb); have n1_ := Aside0.mk (below_step (by repeat (first | (with_reducible first | exact HB.out | apply below_alloc | apply pw_below_drewN | apply below_drew1 | refine below_set ?_ GE623.out) | exact HB.out)) hb); clear BK623; clear HB; have BK623 := n0_; have HB := n1_; clear n0_ n1_; (try clear hb); (try clear hb2); (try clear hk); (try clear hi))))
                go_ret
                exact ⟨by first | rfl | (simp [errW_none, errW_some] <;> rfl) | (simp [*, errW_none, errW_some] <;> rfl), by repeat (first | (with_reducible first | exact HB.out | apply below_alloc | apply pw_below_drewN | apply below_drew1 | refine below_set ?_ GE623.out) | exact HB.out)⟩
              · rw [if_neg c18] at H
                exact absurd H (by simp)
            · rw [if_neg c16] at H
              have c16b0 : (a0_0 == 2) = false := beq_eq_false_iff_ne.mpr c16
              have c16b1 : (a0_0 != 2) = true := bne_iff_ne.mpr c16
              by_cases c21 : a0_0 = 3
              · rw [if_pos c21] at H
                have c21b0 : (a0_0 == 3) = true := beq_iff_eq.mpr c21
                have c21b1 : (a0_0 != 3) = false := bne_eq_false_iff_eq.mpr c21
                clear c21
                replace H := Option.bind_eq_some_iff.mp H
                obtain ⟨t626, A220, H⟩ := H
                replace H : (if x4_3.size + t626.size ≤ 9223372036854775807 then (if (x4_3 ++ t626).size + 1 ≤ 9223372036854775807 then ((chanceryref17_digits.f kj3 (Int.tmod x3_3 10000) 4).bind fun t627 => (if ((x4_3 ++ t626) ++ (⟨#[46]⟩ : ByteArray)).size + t627.size ≤ 9223372036854775807 then (some (((x4_3 ++ t626) ++ (⟨#[46]⟩ : ByteArray)) ++ t627)) else (none))) else (none)) else (none)) = some r := H
                have A22 := Aside0.mk A220
                clear A220
                by_cases c23 : x4_3.size + t626.size ≤ 9223372036854775807
                · rw [if_pos c23] at H
                  have c23b0 := eq_true c23
                  have c23b1 : decide (x4_3.size + t626.size ≤ 9223372036854775807) = true := decide_eq_true c23
                  try have c23b2 : (9223372036854775807 < x4_3.size + t626.size) = False := eq_false (Nat.not_lt.2 c23)
                  by_cases c24 : (x4_3 ++ t626).size + 1 ≤ 9223372036854775807
                  · rw [if_pos c24] at H
                    have c24b0 := eq_true c24
                    have c24b1 : decide ((x4_3 ++ t626).size + 1 ≤ 9223372036854775807) = true := decide_eq_true c24
                    try have c24b2 : (9223372036854775807 < (x4_3 ++ t626).size + 1) = False := eq_false (Nat.not_lt.2 c24)
                    have c24b3 : (9223372036854775807 < x4_3.size + t626.size + 1) = False := eq_false (Nat.not_lt.2 (by have h_ := c24; simp only [ByteArray.size_append] at h_; exact h_))
                    replace H := Option.bind_eq_some_iff.mp H
                    obtain ⟨t627, A250, H⟩ := H
                    replace H : (if ((x4_3 ++ t626) ++ (⟨#[46]⟩ : ByteArray)).size + t627.size ≤ 9223372036854775807 then (some (((x4_3 ++ t626) ++ (⟨#[46]⟩ : ByteArray)) ++ t627)) else (none)) = some r := H
                    have A25 := Aside0.mk A250
                    clear A250
                    by_cases c26 : ((x4_3 ++ t626) ++ (⟨#[46]⟩ : ByteArray)).size + t627.size ≤ 9223372036854775807
                    · rw [if_pos c26] at H
                      have c26b0 := eq_true c26
                      have c26b1 : decide (((x4_3 ++ t626) ++ (⟨#[46]⟩ : ByteArray)).size + t627.size ≤ 9223372036854775807) = true := decide_eq_true c26
                      try have c26b2 : (9223372036854775807 < ((x4_3 ++ t626) ++ (⟨#[46]⟩ : ByteArray)).size + t627.size) = False := eq_false (Nat.not_lt.2 c26)
                      have c26b3 : (9223372036854775807 < x4_3.size + t626.size + 1 + t627.size) = False := eq_false (Nat.not_lt.2 (by have h_ := c26; simp only [ByteArray.size_append] at h_; exact h_))
                      obtain rfl := Option.some.inj H
                      have hcz27_0 : wc.cell? ⟨gb623, 0, none⟩ = some (.int .u8 a0_0) := (blk_cell BK623.out 0).trans rfl
                      have hcz27_1 : wc.cell? ⟨gb623, 1, none⟩ = some (.int .i64 a0_1) := (blk_cell BK623.out 1).trans rfl
                      have hcz27_2 : wc.cell? ⟨gb623, 2, none⟩ = some (.string a0_2) := (blk_cell BK623.out 2).trans rfl
                      have hfz27_0 := blk_frozen BK623.out 0
                      have hfz27_1 := blk_frozen BK623.out 1
                      have hfz27_2 := blk_frozen BK623.out 2
                      go_wp2_with (first | (go_at_call 70; (with_reducible refine (chanceryref17_digits.calls kj3 (IntKind.u64.wrap (Int.tdiv x3_3 10000)) 1 t626 _ A22.out).mono ?_); rintro e w28 ⟨rfl, hb⟩; have n0_ := Aside0.mk (blk_below (g := gb623) (o := .cells #[.int .u8 a0_0, .int .i64 a0_1, .string a0_2] 25 (0, 0)) (by (with_reducible repeat (first | refine blk_drewN ?_ _ | refine blk_drew ?_ | refine blk_alloc ?_ _)); exact BK623.out) hb); have n1_ := Aside0.mk (below_step (by repeat (first | (with_reducible first | exact HB.out | apply below_alloc | apply pw_below_drewN | apply below_drew1 | refine below_set ?_ GE623.out) | exact HB.out)) hb); clear BK623; clear HB; have BK623 := n0_; have HB := n1_; clear n0_ n1_; (try clear hb); (try clear hb2); (try clear hk); (try clear hi)) | (go_at_call 70; (with_reducible refine (chanceryref17_digits.calls kj3 (Int.tmod x3_3 10000) 4 t627 _ A25.out).mono ?_); rintro e w29 ⟨rfl, hb⟩; have n0_ := Aside0.mk (blk_below (g := gb623) (o := .cells #[.int .u8 a0_0, .int .i64 a0_1, .string a0_2] 25 (0, 0)) (by (with_reducible repeat (first | refine blk_drewN ?_ _ | refine blk_drew ?_ | refine blk_alloc ?_ _)); exact BK623.out) hb); have n1_ := Aside0.mk (below_step (by repeat (first | (with_reducible first | exact HB.out | apply below_alloc | apply pw_below_drewN | apply below_drew1 | refine below_set ?_ GE623.out) | exact HB.out)) hb); clear BK623; clear HB; have BK623 := n0_; have HB := n1_; clear n0_ n1_; (try clear hb); (try clear hb2); (try clear hk); (try clear hi)))
                      repeat (go_quiet (first | (go_at_call 70; (with_reducible refine (chanceryref17_digits.calls kj3 (IntKind.u64.wrap (Int.tdiv x3_3 10000)) 1 t626 _ A22.out).mono ?_); rintro e w28 ⟨rfl, hb⟩; have n0_ := Aside0.mk (blk_below (g := gb623) (o := .cells #[.int .u8 a0_0, .int .i64 a0_1, .string a0_2] 25 (0, 0)) (by (with_reducible repeat (first | refine blk_drewN ?_ _ | refine blk_drew ?_ | refine blk_alloc ?_ _)); exact BK623.out) hb); have n1_ := Aside0.mk (below_step (by repeat (first | (with_reducible first | exact HB.out | apply below_alloc | apply pw_below_drewN | apply below_drew1 | refine below_set ?_ GE623.out) | exact HB.out)) hb); clear BK623; clear HB; have BK623 := n0_; have HB := n1_; clear n0_ n1_; (try clear hb); (try clear hb2); (try clear hk); (try clear hi)) | (go_at_call 70; (with_reducible refine (chanceryref17_digits.calls kj3 (Int.tmod x3_3 10000) 4 t627 _ A25.out).mono ?_); rintro e w29 ⟨rfl, hb⟩; have n0_ := Aside0.mk (blk_below (g := gb623) (o := .cells #[.int .u8 a0_0, .int .i64 a0_1, .string a0_2] 25 (0, 0)) (by (with_reducible repeat (first | refine blk_drewN ?_ _ | refine blk_drew ?_ | refine blk_alloc ?_ _)); exact BK623.out) hb); have n1_ := Aside0.mk (below_step (by repeat (first | (with_reducible first | exact HB.out | apply below_alloc | apply pw_below_drewN | apply below_drew1 | refine below_set ?_ GE623.out) | exact HB.out)) hb); clear BK623; clear HB; have BK623 := n0_; have HB := n1_; clear n0_ n1_; (try clear hb); (try clear hb2); (try clear hk); (try clear hi))); try go_wp2_with (first | (go_at_call 70; (with_reducible refine (chanceryref17_digits.calls kj3 (IntKind.u64.wrap (Int.tdiv x3_3 10000)) 1 t626 _ A22.out).mono ?_); rintro e w28 ⟨rfl, hb⟩; have n0_ := Aside0.mk (blk_below (g := gb623) (o := .cells #[.int .u8 a0_0, .int .i64 a0_1, .string a0_2] 25 (0, 0)) (by (with_reducible repeat (first | refine blk_drewN ?_ _ | refine blk_drew ?_ | refine blk_alloc ?_ _)); exact BK623.out) hb); have n1_ := Aside0.mk (below_step (by repeat (first | (with_reducible first | exact HB.out | apply below_alloc | apply pw_below_drewN | apply below_drew1 | refine below_set ?_ GE623.out) | exact HB.out)) hb); clear BK623; clear HB; have BK623 := n0_; have HB := n1_; clear n0_ n1_; (try clear hb); (try clear hb2); (try clear hk); (try clear hi)) | (go_at_call 70; (with_reducible refine (chanceryref17_digits.calls kj3 (Int.tmod x3_3 10000) 4 t627 _ A25.out).mono ?_); rintro e w29 ⟨rfl, hb⟩; have n0_ := Aside0.mk (blk_below (g := gb623) (o := .cells #[.int .u8 a0_0, .int .i64 a0_1, .string a0_2] 25 (0, 0)) (by (with_reducible repeat (first | refine blk_drewN ?_ _ | refine blk_drew ?_ | refine blk_alloc ?_ _)); exact BK623.out) hb); have n1_ := Aside0.mk (below_step (by repeat (first | (with_reducible first | exact HB.out | apply below_alloc | apply pw_below_drewN | apply below_drew1 | refine below_set ?_ GE623.out) | exact HB.out)) hb); clear BK623; clear HB; have BK623 := n0_; have HB := n1_; clear n0_ n1_; (try clear hb); (try clear hb2); (try clear hk); (try clear hi))))
                      go_ret
                      exact ⟨by first | rfl | (simp [errW_none, errW_some] <;> rfl) | (simp [*, errW_none, errW_some] <;> rfl), by repeat (first | (with_reducible first | exact HB.out | apply below_alloc | apply pw_below_drewN | apply below_drew1 | refine below_set ?_ GE623.out) | exact HB.out)⟩
                    · rw [if_neg c26] at H
                      exact absurd H (by simp)
                  · rw [if_neg c24] at H
                    exact absurd H (by simp)
                · rw [if_neg c23] at H
                  exact absurd H (by simp)
              · rw [if_neg c21] at H
                have c21b0 : (a0_0 == 3) = false := beq_eq_false_iff_ne.mpr c21
                have c21b1 : (a0_0 != 3) = true := bne_iff_ne.mpr c21
                by_cases c30 : a0_0 = 4
                · rw [if_pos c30] at H
                  have c30b0 : (a0_0 == 4) = true := beq_iff_eq.mpr c30
                  have c30b1 : (a0_0 != 4) = false := bne_eq_false_iff_eq.mpr c30
                  clear c30
                  have H' := Aside0.mk H
                  clear H
                  have hcz31_0 : wc.cell? ⟨gb623, 0, none⟩ = some (.int .u8 a0_0) := (blk_cell BK623.out 0).trans rfl
                  have hcz31_1 : wc.cell? ⟨gb623, 1, none⟩ = some (.int .i64 a0_1) := (blk_cell BK623.out 1).trans rfl
                  have hcz31_2 : wc.cell? ⟨gb623, 2, none⟩ = some (.string a0_2) := (blk_cell BK623.out 2).trans rfl
                  have hfz31_0 := blk_frozen BK623.out 0
                  have hfz31_1 := blk_frozen BK623.out 1
                  have hfz31_2 := blk_frozen BK623.out 2
                  go_wp2
                  repeat (go_quiet (fail); try go_wp2)
                  go_loopg [5, 6] kj3 (fun kq v5 v6 w' => ∃ (x5_2 : ByteArray) (x6_2 : Int), v5 = .string x5_2 ∧ v6 = .int .i64 x6_2 ∧ Aside0 (chanceryref17_Print.l0 kq x5_2 x6_2 a0_0 a0_1 a0_2 = some r) ∧ Aside0 (kq ≤ kj3) ∧ Aside0 (w'.heap[gb623]? = some (.cells #[.int .u8 a0_0, .int .i64 a0_1, .string a0_2] 25 (0, 0))) ∧ Aside0 (Below w.heap.size w w'))
                  case atStart => exact ⟨((⟨#[39]⟩ : ByteArray)), (0), (by first | rfl | (simp; done) | (simp [*]; done)), (by first | rfl | (simp; done) | (simp [*]; done)), H', ⟨Nat.le_refl _⟩, ⟨by (with_reducible repeat (first | refine blk_drewN ?_ _ | refine blk_drew ?_ | refine blk_alloc ?_ _)); exact BK623.out⟩, ⟨by repeat (first | (with_reducible first | exact HB.out | apply below_alloc | apply pw_below_drewN | apply below_drew1 | refine below_set ?_ GE623.out) | exact HB.out)⟩⟩
                  case round =>
                    clear H'
                    try clear c1
                    try clear c2
                    try clear p2
                    try clear c3
                    try clear c9
                    try clear c9b0
                    try clear c10
                    try clear c10b0
                    try clear c10b1
                    try clear c12
                    try clear c12b0
                    try clear c12b1
                    try clear c13
                    try clear c13b0
                    try clear c13b1
                    try clear c16
                    try clear c16b0
                    try clear c16b1
                    try clear c18
                    try clear c18b0
                    try clear c18b1
                    try clear c18b2
                    try clear c21
                    try clear c21b0
                    try clear c21b1
                    try clear c23
                    try clear c23b0
                    try clear c23b1
                    try clear c23b2
                    try clear c24
                    try clear c24b0
                    try clear c24b1
                    try clear c24b2
                    try clear c26
                    try clear c26b0
                    try clear c26b1
                    try clear c26b2
                    try clear c30
                    try clear c30b0
                    try clear c30b1
                    try clear hcz11_0
                    try clear hcz11_1
                    try clear hcz11_2
                    try clear hcz14_0
                    try clear hcz14_1
                    try clear hcz14_2
                    try clear hcz15_0
                    try clear hcz15_1
                    try clear hcz15_2
                    try clear hcz19_0
                    try clear hcz19_1
                    try clear hcz19_2
                    try clear hcz27_0
                    try clear hcz27_1
                    try clear hcz27_2
                    try clear hcz31_0
                    try clear hcz31_1
                    try clear hcz31_2
                    try clear hcz6_0
                    try clear hcz6_1
                    try clear hcz6_2
                    try clear hcz8_0
                    try clear hcz8_1
                    try clear hcz8_2
                    try clear hfz11_0
                    try clear hfz11_1
                    try clear hfz11_2
                    try clear hfz14_0
                    try clear hfz14_1
                    try clear hfz14_2
                    try clear hfz15_0
                    try clear hfz15_1
                    try clear hfz15_2
                    try clear hfz19_0
                    try clear hfz19_1
                    try clear hfz19_2
                    try clear hfz27_0
                    try clear hfz27_1
                    try clear hfz27_2
                    try clear hfz31_0
                    try clear hfz31_1
                    try clear hfz31_2
                    try clear hfz6_0
                    try clear hfz6_1
                    try clear hfz6_2
                    try clear hfz8_0
                    try clear hfz8_1
                    try clear hfz8_2
                    try clear p2
                    obtain ⟨x5_2, x6_2, rfl, rfl, HA, HK2, BK623, HB⟩ := hrel
                    cases gk with
                    | zero => exact absurd HA.out (by simp [chanceryref17_Print.l0])
                    | succ k2 =>
                      have H := HA.out
                      clear HA
                      simp only [chanceryref17_Print.l0] at H
                      by_cases c32 : x6_2 < (a0_2.size : Int)
                      · rw [if_pos c32] at H
                        have c32b0 : decide (x6_2 < (a0_2.size : Int)) = true := decide_eq_true c32
                        clear c32
                        by_cases c33 : 0 ≤ x6_2
                        · rw [if_pos c33] at H
                          have c33b0 : decide (0 ≤ x6_2) = true := decide_eq_true c33
                          clear c33
                          by_cases c35 : (bt a0_2 x6_2) = 39
                          · rw [if_pos c35] at H
                            have c35b0 : ((bt a0_2 x6_2) == 39) = true := beq_iff_eq.mpr c35
                            have c35b1 : ((bt a0_2 x6_2) != 39) = false := bne_eq_false_iff_eq.mpr c35
                            clear c35
                            by_cases c36 : x5_2.size + 1 ≤ 9223372036854775807
                            · rw [if_pos c36] at H
                              have c36b0 := eq_true c36
                              have c36b1 : decide (x5_2.size + 1 ≤ 9223372036854775807) = true := decide_eq_true c36
                              try have c36b2 : (9223372036854775807 < x5_2.size + 1) = False := eq_false (Nat.not_lt.2 c36)
                              have c37b0 := eq_true (of_decide_eq_true (by first | (with_reducible assumption) | assumption) : 0 ≤ x6_2)
                              by_cases c38 : x6_2 ≤ (wrap64 (x6_2 + 1))
                              · rw [if_pos c38] at H
                                have c38b0 := eq_true c38
                                have c38b1 : decide (x6_2 ≤ (wrap64 (x6_2 + 1))) = true := decide_eq_true c38
                                by_cases c39 : (wrap64 (x6_2 + 1)) ≤ (a0_2.size : Int)
                                · rw [if_pos c39] at H
                                  have c39b0 := eq_true c39
                                  have c39b1 : decide ((wrap64 (x6_2 + 1)) ≤ (a0_2.size : Int)) = true := decide_eq_true c39
                                  by_cases c40 : (x5_2 ++ (⟨#[39]⟩ : ByteArray)).size + (a0_2.extract (x6_2 : Int).toNat ((wrap64 (x6_2 + 1)) : Int).toNat).size ≤ 9223372036854775807
                                  · rw [if_pos c40] at H
                                    have c40b0 := eq_true c40
                                    have c40b1 : decide ((x5_2 ++ (⟨#[39]⟩ : ByteArray)).size + (a0_2.extract (x6_2 : Int).toNat ((wrap64 (x6_2 + 1)) : Int).toNat).size ≤ 9223372036854775807) = true := decide_eq_true c40
                                    try have c40b2 : (9223372036854775807 < (x5_2 ++ (⟨#[39]⟩ : ByteArray)).size + (a0_2.extract (x6_2 : Int).toNat ((wrap64 (x6_2 + 1)) : Int).toNat).size) = False := eq_false (Nat.not_lt.2 c40)
                                    have H' := Aside0.mk H
                                    clear H
                                    have hcz41_0 : wr.cell? ⟨gb623, 0, none⟩ = some (.int .u8 a0_0) := (blk_cell BK623.out 0).trans rfl
                                    have hcz41_1 : wr.cell? ⟨gb623, 1, none⟩ = some (.int .i64 a0_1) := (blk_cell BK623.out 1).trans rfl
                                    have hcz41_2 : wr.cell? ⟨gb623, 2, none⟩ = some (.string a0_2) := (blk_cell BK623.out 2).trans rfl
                                    have hfz41_0 := blk_frozen BK623.out 0
                                    have hfz41_1 := blk_frozen BK623.out 1
                                    have hfz41_2 := blk_frozen BK623.out 2
                                    have p34 : 0 ≤ (x6_2 : Int) := of_decide_eq_true (by first | (with_reducible assumption) | assumption)
                                    have q34 : x6_2 < (a0_2.size : Int) := of_decide_eq_true (by first | (with_reducible assumption) | assumption)
                                    have hx34 := bt_at a0_2 x6_2
                                    replace p34 := eq_true p34
                                    replace q34 := eq_true q34
                                    go_wp2
                                    repeat (go_quiet (fail); try go_wp2)
                                    go_roundg k2
                                    case measure => have := HJ3.out; have := HK2.out; omega
                                    case rel => exact ⟨((x5_2 ++ (⟨#[39]⟩ : ByteArray)) ++ (a0_2.extract (x6_2 : Int).toNat ((wrap64 (x6_2 + 1)) : Int).toNat)), (wrap64 (x6_2 + 1)), (by first | rfl | (simp; done) | (simp [*]; done)), (by first | rfl | (simp; done) | (simp [*]; done)), H', ⟨by have := HJ3.out; have := HK2.out; omega⟩, ⟨by (with_reducible repeat (first | refine blk_drewN ?_ _ | refine blk_drew ?_ | refine blk_alloc ?_ _)); exact BK623.out⟩, ⟨by repeat (first | (with_reducible first | exact HB.out | apply below_alloc | apply pw_below_drewN | apply below_drew1 | refine below_set ?_ GE623.out) | exact HB.out)⟩⟩
                                  · rw [if_neg c40] at H
                                    exact absurd H (by simp)
                                · rw [if_neg c39] at H
                                  exact absurd H (by simp)
                              · rw [if_neg c38] at H
                                exact absurd H (by simp)
                            · rw [if_neg c36] at H
                              exact absurd H (by simp)
                          · rw [if_neg c35] at H
                            have c35b0 : ((bt a0_2 x6_2) == 39) = false := beq_eq_false_iff_ne.mpr c35
                            have c35b1 : ((bt a0_2 x6_2) != 39) = true := bne_iff_ne.mpr c35
                            have c42b0 := eq_true (of_decide_eq_true (by first | (with_reducible assumption) | assumption) : 0 ≤ x6_2)
                            by_cases c43 : x6_2 ≤ (wrap64 (x6_2 + 1))
                            · rw [if_pos c43] at H
                              have c43b0 := eq_true c43
                              have c43b1 : decide (x6_2 ≤ (wrap64 (x6_2 + 1))) = true := decide_eq_true c43
                              by_cases c44 : (wrap64 (x6_2 + 1)) ≤ (a0_2.size : Int)
                              · rw [if_pos c44] at H
                                have c44b0 := eq_true c44
                                have c44b1 : decide ((wrap64 (x6_2 + 1)) ≤ (a0_2.size : Int)) = true := decide_eq_true c44
                                by_cases c45 : x5_2.size + (a0_2.extract (x6_2 : Int).toNat ((wrap64 (x6_2 + 1)) : Int).toNat).size ≤ 9223372036854775807
                                · rw [if_pos c45] at H
                                  have c45b0 := eq_true c45
                                  have c45b1 : decide (x5_2.size + (a0_2.extract (x6_2 : Int).toNat ((wrap64 (x6_2 + 1)) : Int).toNat).size ≤ 9223372036854775807) = true := decide_eq_true c45
                                  try have c45b2 : (9223372036854775807 < x5_2.size + (a0_2.extract (x6_2 : Int).toNat ((wrap64 (x6_2 + 1)) : Int).toNat).size) = False := eq_false (Nat.not_lt.2 c45)
                                  have H' := Aside0.mk H
                                  clear H
                                  have hcz46_0 : wr.cell? ⟨gb623, 0, none⟩ = some (.int .u8 a0_0) := (blk_cell BK623.out 0).trans rfl
                                  have hcz46_1 : wr.cell? ⟨gb623, 1, none⟩ = some (.int .i64 a0_1) := (blk_cell BK623.out 1).trans rfl
                                  have hcz46_2 : wr.cell? ⟨gb623, 2, none⟩ = some (.string a0_2) := (blk_cell BK623.out 2).trans rfl
                                  have hfz46_0 := blk_frozen BK623.out 0
                                  have hfz46_1 := blk_frozen BK623.out 1
                                  have hfz46_2 := blk_frozen BK623.out 2
                                  have p34 : 0 ≤ (x6_2 : Int) := of_decide_eq_true (by first | (with_reducible assumption) | assumption)
                                  have q34 : x6_2 < (a0_2.size : Int) := of_decide_eq_true (by first | (with_reducible assumption) | assumption)
                                  have hx34 := bt_at a0_2 x6_2
                                  replace p34 := eq_true p34
                                  replace q34 := eq_true q34
                                  go_wp2
                                  repeat (go_quiet (fail); try go_wp2)
                                  go_roundg k2
                                  case measure => have := HJ3.out; have := HK2.out; omega
                                  case rel => exact ⟨(x5_2 ++ (a0_2.extract (x6_2 : Int).toNat ((wrap64 (x6_2 + 1)) : Int).toNat)), (wrap64 (x6_2 + 1)), (by first | rfl | (simp; done) | (simp [*]; done)), (by first | rfl | (simp; done) | (simp [*]; done)), H', ⟨by have := HJ3.out; have := HK2.out; omega⟩, ⟨by (with_reducible repeat (first | refine blk_drewN ?_ _ | refine blk_drew ?_ | refine blk_alloc ?_ _)); exact BK623.out⟩, ⟨by repeat (first | (with_reducible first | exact HB.out | apply below_alloc | apply pw_below_drewN | apply below_drew1 | refine below_set ?_ GE623.out) | exact HB.out)⟩⟩
                                · rw [if_neg c45] at H
                                  exact absurd H (by simp)
                              · rw [if_neg c44] at H
                                exact absurd H (by simp)
                            · rw [if_neg c43] at H
                              exact absurd H (by simp)
                        · rw [if_neg c33] at H
                          exact absurd H (by simp)
                      · rw [if_neg c32] at H
                        have c32b0 : decide (x6_2 < (a0_2.size : Int)) = false := decide_eq_false c32
                        clear c32
                        by_cases c47 : x5_2.size + 1 ≤ 9223372036854775807
                        · rw [if_pos c47] at H
                          have c47b0 := eq_true c47
                          have c47b1 : decide (x5_2.size + 1 ≤ 9223372036854775807) = true := decide_eq_true c47
                          try have c47b2 : (9223372036854775807 < x5_2.size + 1) = False := eq_false (Nat.not_lt.2 c47)
                          obtain rfl := Option.some.inj H
                          have hcz48_0 : wr.cell? ⟨gb623, 0, none⟩ = some (.int .u8 a0_0) := (blk_cell BK623.out 0).trans rfl
                          have hcz48_1 : wr.cell? ⟨gb623, 1, none⟩ = some (.int .i64 a0_1) := (blk_cell BK623.out 1).trans rfl
                          have hcz48_2 : wr.cell? ⟨gb623, 2, none⟩ = some (.string a0_2) := (blk_cell BK623.out 2).trans rfl
                          have hfz48_0 := blk_frozen BK623.out 0
                          have hfz48_1 := blk_frozen BK623.out 1
                          have hfz48_2 := blk_frozen BK623.out 2
                          go_wp2
                          repeat (go_quiet (fail); try go_wp2)
                          go_ret
                          exact ⟨by first | rfl | (simp [errW_none, errW_some] <;> rfl) | (simp [*, errW_none, errW_some] <;> rfl), by repeat (first | (with_reducible first | exact HB.out | apply below_alloc | apply pw_below_drewN | apply below_drew1 | refine below_set ?_ GE623.out) | exact HB.out)⟩
                        · rw [if_neg c47] at H
                          exact absurd H (by simp)
                · rw [if_neg c30] at H
                  have c30b0 : (a0_0 == 4) = false := beq_eq_false_iff_ne.mpr c30
                  have c30b1 : (a0_0 != 4) = true := bne_iff_ne.mpr c30
                  have H' := Aside0.mk H
                  clear H
                  have hcz49_0 : wc.cell? ⟨gb623, 0, none⟩ = some (.int .u8 a0_0) := (blk_cell BK623.out 0).trans rfl
                  have hcz49_1 : wc.cell? ⟨gb623, 1, none⟩ = some (.int .i64 a0_1) := (blk_cell BK623.out 1).trans rfl
                  have hcz49_2 : wc.cell? ⟨gb623, 2, none⟩ = some (.string a0_2) := (blk_cell BK623.out 2).trans rfl
                  have hfz49_0 := blk_frozen BK623.out 0
                  have hfz49_1 := blk_frozen BK623.out 1
                  have hfz49_2 := blk_frozen BK623.out 2
                  go_wp2
                  repeat (go_quiet (fail); try go_wp2)
                  go_loopg [7, 8] kj3 (fun kq v7 v8 w' => ∃ (x7_2 : ByteArray) (x8_2 : Int), v7 = .string x7_2 ∧ v8 = .int .i64 x8_2 ∧ Aside0 (chanceryref17_Print.l1 kq x7_2 x8_2 a0_0 a0_1 a0_2 = some r) ∧ Aside0 (kq ≤ kj3) ∧ Aside0 (w'.heap[gb623]? = some (.cells #[.int .u8 a0_0, .int .i64 a0_1, .string a0_2] 25 (0, 0))) ∧ Aside0 (Below w.heap.size w w'))
                  case atStart => exact ⟨((⟨#[120, 39]⟩ : ByteArray)), (0), (by first | rfl | (simp; done) | (simp [*]; done)), (by first | rfl | (simp; done) | (simp [*]; done)), H', ⟨Nat.le_refl _⟩, ⟨by (with_reducible repeat (first | refine blk_drewN ?_ _ | refine blk_drew ?_ | refine blk_alloc ?_ _)); exact BK623.out⟩, ⟨by repeat (first | (with_reducible first | exact HB.out | apply below_alloc | apply pw_below_drewN | apply below_drew1 | refine below_set ?_ GE623.out) | exact HB.out)⟩⟩
                  case round =>
                    clear H'
                    try clear c1
                    try clear c2
                    try clear p2
                    try clear c3
                    try clear p3
                    try clear q3
                    try clear hx3
                    try clear c4
                    try clear p6
                    try clear c9
                    try clear c9b0
                    try clear c10
                    try clear c10b0
                    try clear c10b1
                    try clear c12
                    try clear c12b0
                    try clear c12b1
                    try clear c13
                    try clear c13b0
                    try clear c13b1
                    try clear c16
                    try clear c16b0
                    try clear c16b1
                    try clear c18
                    try clear c18b0
                    try clear c18b1
                    try clear c18b2
                    try clear c21
                    try clear c21b0
                    try clear c21b1
                    try clear c23
                    try clear c23b0
                    try clear c23b1
                    try clear c23b2
                    try clear c24
                    try clear c24b0
                    try clear c24b1
                    try clear c24b2
                    try clear c26
                    try clear c26b0
                    try clear c26b1
                    try clear c26b2
                    try clear c30
                    try clear c30b0
                    try clear c30b1
                    try clear c32
                    try clear c32b0
                    try clear c33
                    try clear c33b0
                    try clear p34
                    try clear q34
                    try clear hx34
                    try clear c35
                    try clear c35b0
                    try clear c35b1
                    try clear c36
                    try clear c36b0
                    try clear c36b1
                    try clear c36b2
                    try clear c37
                    try clear c37b0
                    try clear c38
                    try clear c38b0
                    try clear c38b1
                    try clear c39
                    try clear c39b0
                    try clear c39b1
                    try clear c40
                    try clear c40b0
                    try clear c40b1
                    try clear c40b2
                    try clear c42
                    try clear c42b0
                    try clear c43
                    try clear c43b0
                    try clear c43b1
                    try clear c44
                    try clear c44b0
                    try clear c44b1
                    try clear c45
                    try clear c45b0
                    try clear c45b1
                    try clear c45b2
                    try clear c47
                    try clear c47b0
                    try clear c47b1
                    try clear c47b2
                    try clear hcz11_0
                    try clear hcz11_1
                    try clear hcz11_2
                    try clear hcz14_0
                    try clear hcz14_1
                    try clear hcz14_2
                    try clear hcz15_0
                    try clear hcz15_1
                    try clear hcz15_2
                    try clear hcz19_0
                    try clear hcz19_1
                    try clear hcz19_2
                    try clear hcz27_0
                    try clear hcz27_1
                    try clear hcz27_2
                    try clear hcz31_0
                    try clear hcz31_1
                    try clear hcz31_2
                    try clear hcz41_0
                    try clear hcz41_1
                    try clear hcz41_2
                    try clear hcz46_0
                    try clear hcz46_1
                    try clear hcz46_2
                    try clear hcz48_0
                    try clear hcz48_1
                    try clear hcz48_2
                    try clear hcz49_0
                    try clear hcz49_1
                    try clear hcz49_2
                    try clear hcz6_0
                    try clear hcz6_1
                    try clear hcz6_2
                    try clear hcz8_0
                    try clear hcz8_1
                    try clear hcz8_2
                    try clear hfz11_0
                    try clear hfz11_1
                    try clear hfz11_2
                    try clear hfz14_0
                    try clear hfz14_1
                    try clear hfz14_2
                    try clear hfz15_0
                    try clear hfz15_1
                    try clear hfz15_2
                    try clear hfz19_0
                    try clear hfz19_1
                    try clear hfz19_2
                    try clear hfz27_0
                    try clear hfz27_1
                    try clear hfz27_2
                    try clear hfz31_0
                    try clear hfz31_1
                    try clear hfz31_2
                    try clear hfz41_0
                    try clear hfz41_1
                    try clear hfz41_2
                    try clear hfz46_0
                    try clear hfz46_1
                    try clear hfz46_2
                    try clear hfz48_0
                    try clear hfz48_1
                    try clear hfz48_2
                    try clear hfz49_0
                    try clear hfz49_1
                    try clear hfz49_2
                    try clear hfz6_0
                    try clear hfz6_1
                    try clear hfz6_2
                    try clear hfz8_0
                    try clear hfz8_1
                    try clear hfz8_2
                    try clear p2
                    try clear p34
                    try clear q34
                    obtain ⟨x7_2, x8_2, rfl, rfl, HA, HK2, BK623, HB⟩ := hrel
                    cases gk with
                    | zero => exact absurd HA.out (by simp [chanceryref17_Print.l1])
                    | succ k2 =>
                      have H := HA.out
                      clear HA
                      simp only [chanceryref17_Print.l1] at H
                      by_cases c50 : x8_2 < (a0_2.size : Int)
                      · rw [if_pos c50] at H
                        have c50b0 : decide (x8_2 < (a0_2.size : Int)) = true := decide_eq_true c50
                        clear c50
                        by_cases c51 : 0 ≤ x8_2
                        · rw [if_pos c51] at H
                          have c51b0 : decide (0 ≤ x8_2) = true := decide_eq_true c51
                          clear c51
                          obtain ⟨ji54, hji54⟩ : ∃ j_ : Int, ((Int.tdiv (bt a0_2 x8_2) 16) % 256) = j_ := ⟨_, rfl⟩
                          replace H : (if 0 ≤ (ji54) then (if (ji54) ≤ (((ji54) + 1) % 256) then (if (((ji54) + 1) % 256) ≤ 16 then (if x7_2.size + ((⟨#[48, 49, 50, 51, 52, 53, 54, 55, 56, 57, 97, 98, 99, 100, 101, 102]⟩ : ByteArray).extract ((ji54) : Int).toNat ((((ji54) + 1) % 256) : Int).toNat).size ≤ 9223372036854775807 then (if 0 ≤ (Int.tmod (bt a0_2 x8_2) 16) then (if (Int.tmod (bt a0_2 x8_2) 16) ≤ (((Int.tmod (bt a0_2 x8_2) 16) + 1) % 256) then (if (((Int.tmod (bt a0_2 x8_2) 16) + 1) % 256) ≤ 16 then (if (x7_2 ++ ((⟨#[48, 49, 50, 51, 52, 53, 54, 55, 56, 57, 97, 98, 99, 100, 101, 102]⟩ : ByteArray).extract ((ji54) : Int).toNat ((((ji54) + 1) % 256) : Int).toNat)).size + ((⟨#[48, 49, 50, 51, 52, 53, 54, 55, 56, 57, 97, 98, 99, 100, 101, 102]⟩ : ByteArray).extract ((Int.tmod (bt a0_2 x8_2) 16) : Int).toNat ((((Int.tmod (bt a0_2 x8_2) 16) + 1) % 256) : Int).toNat).size ≤ 9223372036854775807 then (chanceryref17_Print.l1 k2 ((x7_2 ++ ((⟨#[48, 49, 50, 51, 52, 53, 54, 55, 56, 57, 97, 98, 99, 100, 101, 102]⟩ : ByteArray).extract ((ji54) : Int).toNat ((((ji54) + 1) % 256) : Int).toNat)) ++ ((⟨#[48, 49, 50, 51, 52, 53, 54, 55, 56, 57, 97, 98, 99, 100, 101, 102]⟩ : ByteArray).extract ((Int.tmod (bt a0_2 x8_2) 16) : Int).toNat ((((Int.tmod (bt a0_2 x8_2) 16) + 1) % 256) : Int).toNat)) (wrap64 (x8_2 + 1)) a0_0 a0_1 a0_2) else (none)) else (none)) else (none)) else (none)) else (none)) else (none)) else (none)) else (none)) = some r := by first | (rw [hji54] at H; exact H) | (simp only [hji54] at H ⊢; exact H)
                          by_cases c55 : 0 ≤ (ji54)
                          · rw [if_pos c55] at H
                            have c55b0 := eq_true c55
                            have c55b1 : decide (0 ≤ (ji54)) = true := decide_eq_true c55
                            clear c55
                            by_cases c56 : (ji54) ≤ (((ji54) + 1) % 256)
                            · rw [if_pos c56] at H
                              have c56b0 := eq_true c56
                              have c56b1 : decide ((ji54) ≤ (((ji54) + 1) % 256)) = true := decide_eq_true c56
                              by_cases c57 : (((ji54) + 1) % 256) ≤ 16
                              · rw [if_pos c57] at H
                                have c57b0 := eq_true c57
                                have c57b1 : decide ((((ji54) + 1) % 256) ≤ 16) = true := decide_eq_true c57
                                by_cases c58 : x7_2.size + ((⟨#[48, 49, 50, 51, 52, 53, 54, 55, 56, 57, 97, 98, 99, 100, 101, 102]⟩ : ByteArray).extract ((ji54) : Int).toNat ((((ji54) + 1) % 256) : Int).toNat).size ≤ 9223372036854775807
                                · rw [if_pos c58] at H
                                  have c58b0 := eq_true c58
                                  have c58b1 : decide (x7_2.size + ((⟨#[48, 49, 50, 51, 52, 53, 54, 55, 56, 57, 97, 98, 99, 100, 101, 102]⟩ : ByteArray).extract ((ji54) : Int).toNat ((((ji54) + 1) % 256) : Int).toNat).size ≤ 9223372036854775807) = true := decide_eq_true c58
                                  try have c58b2 : (9223372036854775807 < x7_2.size + ((⟨#[48, 49, 50, 51, 52, 53, 54, 55, 56, 57, 97, 98, 99, 100, 101, 102]⟩ : ByteArray).extract ((ji54) : Int).toNat ((((ji54) + 1) % 256) : Int).toNat).size) = False := eq_false (Nat.not_lt.2 c58)
                                  have c58b3 : (9223372036854775807 < x7_2.size + (((ji54 + 1) % 256).toNat - ji54.toNat)) = False := eq_false (Nat.not_lt.2 (by have h_ := c58; have g_ : (⟨#[48, 49, 50, 51, 52, 53, 54, 55, 56, 57, 97, 98, 99, 100, 101, 102]⟩ : ByteArray).size = 16 := rfl; simp only [ByteArray.size_extract, g_] at h_; have h57_ := c57; omega))
                                  obtain ⟨ji61, hji61⟩ : ∃ j_ : Int, (Int.tmod (bt a0_2 x8_2) 16) = j_ := ⟨_, rfl⟩
                                  replace H : (if 0 ≤ (ji61) then (if (ji61) ≤ (((ji61) + 1) % 256) then (if (((ji61) + 1) % 256) ≤ 16 then (if (x7_2 ++ ((⟨#[48, 49, 50, 51, 52, 53, 54, 55, 56, 57, 97, 98, 99, 100, 101, 102]⟩ : ByteArray).extract ((ji54) : Int).toNat ((((ji54) + 1) % 256) : Int).toNat)).size + ((⟨#[48, 49, 50, 51, 52, 53, 54, 55, 56, 57, 97, 98, 99, 100, 101, 102]⟩ : ByteArray).extract ((ji61) : Int).toNat ((((ji61) + 1) % 256) : Int).toNat).size ≤ 9223372036854775807 then (chanceryref17_Print.l1 k2 ((x7_2 ++ ((⟨#[48, 49, 50, 51, 52, 53, 54, 55, 56, 57, 97, 98, 99, 100, 101, 102]⟩ : ByteArray).extract ((ji54) : Int).toNat ((((ji54) + 1) % 256) : Int).toNat)) ++ ((⟨#[48, 49, 50, 51, 52, 53, 54, 55, 56, 57, 97, 98, 99, 100, 101, 102]⟩ : ByteArray).extract ((ji61) : Int).toNat ((((ji61) + 1) % 256) : Int).toNat)) (wrap64 (x8_2 + 1)) a0_0 a0_1 a0_2) else (none)) else (none)) else (none)) else (none)) = some r := by first | (rw [hji61] at H; exact H) | (simp only [hji61] at H ⊢; exact H)
                                  by_cases c62 : 0 ≤ (ji61)
                                  · rw [if_pos c62] at H
                                    have c62b0 := eq_true c62
                                    have c62b1 : decide (0 ≤ (ji61)) = true := decide_eq_true c62
                                    clear c62
                                    by_cases c63 : (ji61) ≤ (((ji61) + 1) % 256)
                                    · rw [if_pos c63] at H
                                      have c63b0 := eq_true c63
                                      have c63b1 : decide ((ji61) ≤ (((ji61) + 1) % 256)) = true := decide_eq_true c63
                                      by_cases c64 : (((ji61) + 1) % 256) ≤ 16
                                      · rw [if_pos c64] at H
                                        have c64b0 := eq_true c64
                                        have c64b1 : decide ((((ji61) + 1) % 256) ≤ 16) = true := decide_eq_true c64
                                        by_cases c65 : (x7_2 ++ ((⟨#[48, 49, 50, 51, 52, 53, 54, 55, 56, 57, 97, 98, 99, 100, 101, 102]⟩ : ByteArray).extract ((ji54) : Int).toNat ((((ji54) + 1) % 256) : Int).toNat)).size + ((⟨#[48, 49, 50, 51, 52, 53, 54, 55, 56, 57, 97, 98, 99, 100, 101, 102]⟩ : ByteArray).extract ((ji61) : Int).toNat ((((ji61) + 1) % 256) : Int).toNat).size ≤ 9223372036854775807
                                        · rw [if_pos c65] at H
                                          have c65b0 := eq_true c65
                                          have c65b1 : decide ((x7_2 ++ ((⟨#[48, 49, 50, 51, 52, 53, 54, 55, 56, 57, 97, 98, 99, 100, 101, 102]⟩ : ByteArray).extract ((ji54) : Int).toNat ((((ji54) + 1) % 256) : Int).toNat)).size + ((⟨#[48, 49, 50, 51, 52, 53, 54, 55, 56, 57, 97, 98, 99, 100, 101, 102]⟩ : ByteArray).extract ((ji61) : Int).toNat ((((ji61) + 1) % 256) : Int).toNat).size ≤ 9223372036854775807) = true := decide_eq_true c65
                                          try have c65b2 : (9223372036854775807 < (x7_2 ++ ((⟨#[48, 49, 50, 51, 52, 53, 54, 55, 56, 57, 97, 98, 99, 100, 101, 102]⟩ : ByteArray).extract ((ji54) : Int).toNat ((((ji54) + 1) % 256) : Int).toNat)).size + ((⟨#[48, 49, 50, 51, 52, 53, 54, 55, 56, 57, 97, 98, 99, 100, 101, 102]⟩ : ByteArray).extract ((ji61) : Int).toNat ((((ji61) + 1) % 256) : Int).toNat).size) = False := eq_false (Nat.not_lt.2 c65)
                                          have c65b3 : (9223372036854775807 < x7_2.size + (((ji54 + 1) % 256).toNat - ji54.toNat) + (((ji61 + 1) % 256).toNat - ji61.toNat)) = False := eq_false (Nat.not_lt.2 (by have h_ := c65; have g_ : (⟨#[48, 49, 50, 51, 52, 53, 54, 55, 56, 57, 97, 98, 99, 100, 101, 102]⟩ : ByteArray).size = 16 := rfl; simp only [ByteArray.size_append, ByteArray.size_extract, g_] at h_; have h57_ := c57; have h64_ := c64; omega))
                                          have H' := Aside0.mk H
                                          clear H
                                          have hcz66_0 : wr.cell? ⟨gb623, 0, none⟩ = some (.int .u8 a0_0) := (blk_cell BK623.out 0).trans rfl
                                          have hcz66_1 : wr.cell? ⟨gb623, 1, none⟩ = some (.int .i64 a0_1) := (blk_cell BK623.out 1).trans rfl
                                          have hcz66_2 : wr.cell? ⟨gb623, 2, none⟩ = some (.string a0_2) := (blk_cell BK623.out 2).trans rfl
                                          have hfz66_0 := blk_frozen BK623.out 0
                                          have hfz66_1 := blk_frozen BK623.out 1
                                          have hfz66_2 := blk_frozen BK623.out 2
                                          have p52 : 0 ≤ (x8_2 : Int) := of_decide_eq_true (by first | (with_reducible assumption) | assumption)
                                          have q52 : x8_2 < (a0_2.size : Int) := of_decide_eq_true (by first | (with_reducible assumption) | assumption)
                                          have hx52 := bt_at a0_2 x8_2
                                          replace p52 := eq_true p52
                                          replace q52 := eq_true q52
                                          have p53 : 0 ≤ (x8_2 : Int) := of_decide_eq_true (by first | (with_reducible assumption) | assumption)
                                          have q53 : x8_2 < (a0_2.size : Int) := of_decide_eq_true (by first | (with_reducible assumption) | assumption)
                                          have hx53 := bt_at a0_2 x8_2
                                          replace p53 := eq_true p53
                                          replace q53 := eq_true q53
                                          have p59 : 0 ≤ (x8_2 : Int) := of_decide_eq_true (by first | (with_reducible assumption) | assumption)
                                          have q59 : x8_2 < (a0_2.size : Int) := of_decide_eq_true (by first | (with_reducible assumption) | assumption)
                                          have hx59 := bt_at a0_2 x8_2
                                          replace p59 := eq_true p59
                                          replace q59 := eq_true q59
                                          have p60 : 0 ≤ (x8_2 : Int) := of_decide_eq_true (by first | (with_reducible assumption) | assumption)
                                          have q60 : x8_2 < (a0_2.size : Int) := of_decide_eq_true (by first | (with_reducible assumption) | assumption)
                                          have hx60 := bt_at a0_2 x8_2
                                          replace p60 := eq_true p60
                                          replace q60 := eq_true q60
                                          have hw54 : IntKind.u8.wrap ((bt a0_2 x8_2).tdiv 16) = ji54 := by rw [IntKind.wrap_u8]; exact hji54
                                          have hw54b : IntKind.u8.wrap (ji54 + 1) = (ji54 + 1) % 256 := IntKind.wrap_u8 _
                                          have hw61 : (bt a0_2 x8_2).tmod 16 = ji61 := hji61
                                          have hw61b : IntKind.u8.wrap (ji61 + 1) = (ji61 + 1) % 256 := IntKind.wrap_u8 _
                                          go_wp2
                                          repeat (go_quiet (fail); try go_wp2)
                                          go_roundg k2
                                          case measure => have := HJ3.out; have := HK2.out; omega
                                          case rel => exact ⟨((x7_2 ++ ((⟨#[48, 49, 50, 51, 52, 53, 54, 55, 56, 57, 97, 98, 99, 100, 101, 102]⟩ : ByteArray).extract ((ji54) : Int).toNat ((((ji54) + 1) % 256) : Int).toNat)) ++ ((⟨#[48, 49, 50, 51, 52, 53, 54, 55, 56, 57, 97, 98, 99, 100, 101, 102]⟩ : ByteArray).extract ((ji61) : Int).toNat ((((ji61) + 1) % 256) : Int).toNat)), (wrap64 (x8_2 + 1)), (by first | rfl | (simp; done) | (simp only [← hji54, ← hji61] <;> (first | rfl | simp)) | (simp [*]; done)), (by first | rfl | (simp; done) | (simp [*]; done)), H', ⟨by have := HJ3.out; have := HK2.out; omega⟩, ⟨by (with_reducible repeat (first | refine blk_drewN ?_ _ | refine blk_drew ?_ | refine blk_alloc ?_ _)); exact BK623.out⟩, ⟨by repeat (first | (with_reducible first | exact HB.out | apply below_alloc | apply pw_below_drewN | apply below_drew1 | refine below_set ?_ GE623.out) | exact HB.out)⟩⟩
                                        · rw [if_neg c65] at H
                                          exact absurd H (by simp)
                                      · rw [if_neg c64] at H
                                        exact absurd H (by simp)
                                    · rw [if_neg c63] at H
                                      exact absurd H (by simp)
                                  · rw [if_neg c62] at H
                                    exact absurd H (by simp)
                                · rw [if_neg c58] at H
                                  exact absurd H (by simp)
                              · rw [if_neg c57] at H
                                exact absurd H (by simp)
                            · rw [if_neg c56] at H
                              exact absurd H (by simp)
                          · rw [if_neg c55] at H
                            exact absurd H (by simp)
                        · rw [if_neg c51] at H
                          exact absurd H (by simp)
                      · rw [if_neg c50] at H
                        have c50b0 : decide (x8_2 < (a0_2.size : Int)) = false := decide_eq_false c50
                        clear c50
                        by_cases c67 : x7_2.size + 1 ≤ 9223372036854775807
                        · rw [if_pos c67] at H
                          have c67b0 := eq_true c67
                          have c67b1 : decide (x7_2.size + 1 ≤ 9223372036854775807) = true := decide_eq_true c67
                          try have c67b2 : (9223372036854775807 < x7_2.size + 1) = False := eq_false (Nat.not_lt.2 c67)
                          obtain rfl := Option.some.inj H
                          have hcz68_0 : wr.cell? ⟨gb623, 0, none⟩ = some (.int .u8 a0_0) := (blk_cell BK623.out 0).trans rfl
                          have hcz68_1 : wr.cell? ⟨gb623, 1, none⟩ = some (.int .i64 a0_1) := (blk_cell BK623.out 1).trans rfl
                          have hcz68_2 : wr.cell? ⟨gb623, 2, none⟩ = some (.string a0_2) := (blk_cell BK623.out 2).trans rfl
                          have hfz68_0 := blk_frozen BK623.out 0
                          have hfz68_1 := blk_frozen BK623.out 1
                          have hfz68_2 := blk_frozen BK623.out 2
                          go_wp2
                          repeat (go_quiet (fail); try go_wp2)
                          go_ret
                          exact ⟨by first | rfl | (simp [errW_none, errW_some] <;> rfl) | (simp [*, errW_none, errW_some] <;> rfl), by repeat (first | (with_reducible first | exact HB.out | apply below_alloc | apply pw_below_drewN | apply below_drew1 | refine below_set ?_ GE623.out) | exact HB.out)⟩
                        · rw [if_neg c67] at H
                          exact absurd H (by simp)
  · replace c3 := Bool.eq_false_iff.mpr c3
    subst c3
    have H1 : (some (⟨#[]⟩ : ByteArray)) = some r := by rw [if_neg (show ¬ (false = true) by decide)] at H; exact H
    clear H
    have H := H1
    clear H1
    obtain rfl := Option.some.inj H
    go_enter Tryd.func33, Tryd.ntmps33
    go_wp2_with (first | ((with_reducible refine gate_dst (N := 1) rfl ?_); refine box_event ?hg (N := 1) ?hd (cs := #[.int .u8 a0_0, .int .i64 a0_1, .string a0_2]) (t := 25) ?hr ?_; (case hd => rfl); (case hg => rfl); (case hr => first | (go_simp; done) | (go_simp; rfl)); intro gb623 hg w69 hbox hb; have n0_ := Aside0.mk (below_step (by repeat (first | (with_reducible first | exact HB.out | apply below_alloc | apply pw_below_drewN | apply below_drew1) | exact HB.out)) hb); have n1_ := Aside0.mk (hbox); have n2_ := Aside0.mk ((by rw [hg]; exact (below_size (by repeat (first | (with_reducible first | exact HB.out | apply below_alloc | apply pw_below_drewN | apply below_drew1) | exact HB.out))) : w.heap.size ≤ gb623)); have n3_ := Aside0.mk ((by rw [hg]; exact (below_size (by repeat (first | (with_reducible first | exact HB.out | apply below_alloc | apply pw_below_drewN | apply below_drew1) | exact HB.out))) : w.heap.size ≤ gb623)); clear HB; have HB := n0_; have BK623 := n1_; have GW623 := n2_; have GE623 := n3_; clear n0_ n1_ n2_ n3_; clear hb hbox hg; have hcz70_0 : w69.cell? ⟨gb623, 0, none⟩ = some (.int .u8 a0_0) := (blk_cell BK623.out 0).trans rfl; have hcz70_1 : w69.cell? ⟨gb623, 1, none⟩ = some (.int .i64 a0_1) := (blk_cell BK623.out 1).trans rfl; have hcz70_2 : w69.cell? ⟨gb623, 2, none⟩ = some (.string a0_2) := (blk_cell BK623.out 2).trans rfl; have hfz70_0 := blk_frozen BK623.out 0; have hfz70_1 := blk_frozen BK623.out 1; have hfz70_2 := blk_frozen BK623.out 2) | (go_at_call 14; (with_reducible refine (chanceryref17_Right.calls k a0_0 a0_1 a0_2 false _ A2.out).mono ?_); rintro e w71 ⟨rfl, hb⟩; have n0_ := Aside0.mk (blk_below (g := gb623) (o := .cells #[.int .u8 a0_0, .int .i64 a0_1, .string a0_2] 25 (0, 0)) (by (with_reducible repeat (first | refine blk_drewN ?_ _ | refine blk_drew ?_ | refine blk_alloc ?_ _)); exact BK623.out) hb); have n1_ := Aside0.mk (below_step (by repeat (first | (with_reducible first | exact HB.out | apply below_alloc | apply pw_below_drewN | apply below_drew1 | refine below_set ?_ GE623.out) | exact HB.out)) hb); clear BK623; clear HB; have BK623 := n0_; have HB := n1_; clear n0_ n1_; (try clear hb); (try clear hb2); (try clear hk); (try clear hi)))
    repeat (go_quiet (first | ((with_reducible refine gate_dst (N := 1) rfl ?_); refine box_event ?hg (N := 1) ?hd (cs := #[.int .u8 a0_0, .int .i64 a0_1, .string a0_2]) (t := 25) ?hr ?_; (case hd => rfl); (case hg => rfl); (case hr => first | (go_simp; done) | (go_simp; rfl)); intro gb623 hg w69 hbox hb; have n0_ := Aside0.mk (below_step (by repeat (first | (with_reducible first | exact HB.out | apply below_alloc | apply pw_below_drewN | apply below_drew1) | exact HB.out)) hb); have n1_ := Aside0.mk (hbox); have n2_ := Aside0.mk ((by rw [hg]; exact (below_size (by repeat (first | (with_reducible first | exact HB.out | apply below_alloc | apply pw_below_drewN | apply below_drew1) | exact HB.out))) : w.heap.size ≤ gb623)); have n3_ := Aside0.mk ((by rw [hg]; exact (below_size (by repeat (first | (with_reducible first | exact HB.out | apply below_alloc | apply pw_below_drewN | apply below_drew1) | exact HB.out))) : w.heap.size ≤ gb623)); clear HB; have HB := n0_; have BK623 := n1_; have GW623 := n2_; have GE623 := n3_; clear n0_ n1_ n2_ n3_; clear hb hbox hg; have hcz70_0 : w69.cell? ⟨gb623, 0, none⟩ = some (.int .u8 a0_0) := (blk_cell BK623.out 0).trans rfl; have hcz70_1 : w69.cell? ⟨gb623, 1, none⟩ = some (.int .i64 a0_1) := (blk_cell BK623.out 1).trans rfl; have hcz70_2 : w69.cell? ⟨gb623, 2, none⟩ = some (.string a0_2) := (blk_cell BK623.out 2).trans rfl; have hfz70_0 := blk_frozen BK623.out 0; have hfz70_1 := blk_frozen BK623.out 1; have hfz70_2 := blk_frozen BK623.out 2) | (go_at_call 14; (with_reducible refine (chanceryref17_Right.calls k a0_0 a0_1 a0_2 false _ A2.out).mono ?_); rintro e w71 ⟨rfl, hb⟩; have n0_ := Aside0.mk (blk_below (g := gb623) (o := .cells #[.int .u8 a0_0, .int .i64 a0_1, .string a0_2] 25 (0, 0)) (by (with_reducible repeat (first | refine blk_drewN ?_ _ | refine blk_drew ?_ | refine blk_alloc ?_ _)); exact BK623.out) hb); have n1_ := Aside0.mk (below_step (by repeat (first | (with_reducible first | exact HB.out | apply below_alloc | apply pw_below_drewN | apply below_drew1 | refine below_set ?_ GE623.out) | exact HB.out)) hb); clear BK623; clear HB; have BK623 := n0_; have HB := n1_; clear n0_ n1_; (try clear hb); (try clear hb2); (try clear hk); (try clear hi))); try go_wp2_with (first | ((with_reducible refine gate_dst (N := 1) rfl ?_); refine box_event ?hg (N := 1) ?hd (cs := #[.int .u8 a0_0, .int .i64 a0_1, .string a0_2]) (t := 25) ?hr ?_; (case hd => rfl); (case hg => rfl); (case hr => first | (go_simp; done) | (go_simp; rfl)); intro gb623 hg w69 hbox hb; have n0_ := Aside0.mk (below_step (by repeat (first | (with_reducible first | exact HB.out | apply below_alloc | apply pw_below_drewN | apply below_drew1) | exact HB.out)) hb); have n1_ := Aside0.mk (hbox); have n2_ := Aside0.mk ((by rw [hg]; exact (below_size (by repeat (first | (with_reducible first | exact HB.out | apply below_alloc | apply pw_below_drewN | apply below_drew1) | exact HB.out))) : w.heap.size ≤ gb623)); have n3_ := Aside0.mk ((by rw [hg]; exact (below_size (by repeat (first | (with_reducible first | exact HB.out | apply below_alloc | apply pw_below_drewN | apply below_drew1) | exact HB.out))) : w.heap.size ≤ gb623)); clear HB; have HB := n0_; have BK623 := n1_; have GW623 := n2_; have GE623 := n3_; clear n0_ n1_ n2_ n3_; clear hb hbox hg; have hcz70_0 : w69.cell? ⟨gb623, 0, none⟩ = some (.int .u8 a0_0) := (blk_cell BK623.out 0).trans rfl; have hcz70_1 : w69.cell? ⟨gb623, 1, none⟩ = some (.int .i64 a0_1) := (blk_cell BK623.out 1).trans rfl; have hcz70_2 : w69.cell? ⟨gb623, 2, none⟩ = some (.string a0_2) := (blk_cell BK623.out 2).trans rfl; have hfz70_0 := blk_frozen BK623.out 0; have hfz70_1 := blk_frozen BK623.out 1; have hfz70_2 := blk_frozen BK623.out 2) | (go_at_call 14; (with_reducible refine (chanceryref17_Right.calls k a0_0 a0_1 a0_2 false _ A2.out).mono ?_); rintro e w71 ⟨rfl, hb⟩; have n0_ := Aside0.mk (blk_below (g := gb623) (o := .cells #[.int .u8 a0_0, .int .i64 a0_1, .string a0_2] 25 (0, 0)) (by (with_reducible repeat (first | refine blk_drewN ?_ _ | refine blk_drew ?_ | refine blk_alloc ?_ _)); exact BK623.out) hb); have n1_ := Aside0.mk (below_step (by repeat (first | (with_reducible first | exact HB.out | apply below_alloc | apply pw_below_drewN | apply below_drew1 | refine below_set ?_ GE623.out) | exact HB.out)) hb); clear BK623; clear HB; have BK623 := n0_; have HB := n1_; clear n0_ n1_; (try clear hb); (try clear hb2); (try clear hk); (try clear hi))))
    go_ret
    exact ⟨by first | rfl | (simp [errW_none, errW_some] <;> rfl) | (simp [*, errW_none, errW_some] <;> rfl), by repeat (first | (with_reducible first | exact HB.out | apply below_alloc | apply pw_below_drewN | apply below_drew1 | refine below_set ?_ GE623.out) | exact HB.out)⟩
end Go.Proofs.YtbodlnoipkommaaDoor.Q

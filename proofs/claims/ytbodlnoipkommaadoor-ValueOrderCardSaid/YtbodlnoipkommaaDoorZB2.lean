/- Merged out of this session's texts: Wi, Wd -/
import Derived.Test.YtbodlnoipkommaaDoorZB1
import Derived.LoopN
import Derived.Test.YtbodlnoipkommaaDoorProg
import Derived.Test.YtbodlnoipkommaaDoorWWords
import Derived.Test.YtbodlnoipkommaaDoorWLast
import Derived.Test.YtbodlnoipkommaaDoorWMore
import Derived.Shelf.Spec.BitsCarry
import Derived.WalkKit
/- value.asked: by cases (printed by wip/value/gen_asked.py). -/
namespace Go.Proofs.YtbodlnoipkommaaDoor.Wi
open Go.RowKit Go.Proofs.YtbodlnoipkommaaDoor.Q Go.Proofs.YtbodlnoipkommaaDoor.Wh Go.Proofs.YtbodlnoipkommaaDoorW.PrintWords Go.Proofs.YtbodlnoipkommaaDoorW.PrintLast Go.Proofs.YtbodlnoipkommaaDoorW.PrintMore
theorem bcell {W w1 : World} (hb : Below W.heap.size W w1) : (∀ b o, b < W.heap.size → w1.cell? ⟨b, o, none⟩ = W.cell? ⟨b, o, none⟩) ∧ (∀ b o, b < W.heap.size → w1.frozen? ⟨b, o, none⟩ = W.frozen? ⟨b, o, none⟩) :=
  ⟨fun b o h => hb.cell (p := ⟨b, o, none⟩) h, fun b o h => hb.frozen (p := ⟨b, o, none⟩) h⟩
set_option maxRecDepth 100000 in
set_option maxHeartbeats 1000000 in
theorem wrong0 (k0 n0 : Int) (s0 : ByteArray) (k1 n1 : Int) (s1 : ByteArray) (w : World) (hr : rightB k0 n0 s0 = false) :
    Calls Tryd.prog 58 #[.agg #[.int .u8 k0, .int .i64 n0, .string s0], .agg #[.int .u8 k1, .int .i64 n1, .string s1]] w fun e w' => e = .returned (.tuple #[.bool false, .int .i64 2]) ∧ Below w.heap.size w w' := by
  have N := Aside0.mk (value_Right.calls 1 k0 n0 s0 (rightB k0 n0 s0) · (right_f 0 k0 n0 s0))
  rw [hr] at N
  clear hr
  go_enter Tryd.func58, Tryd.ntmps58
  go_wp2_with fail
  refine (N.out _).mono ?_
  rintro e w1 ⟨rfl, hb1⟩
  obtain ⟨c1, f1⟩ := bcell hb1
  have c10 := fun o => c1 (w.heap.size) o (by first | (simp; done) | (simp; omega) | omega)
  have f10 := fun o => f1 (w.heap.size) o (by first | (simp; done) | (simp; omega) | omega)
  have c11 := fun o => c1 (w.heap.size + 1) o (by first | (simp; done) | (simp; omega) | omega)
  have f11 := fun o => f1 (w.heap.size + 1) o (by first | (simp; done) | (simp; omega) | omega)
  have l10 : w.heap.size < w1.heap.size := by
    have := hb1.size
    try simp at this
    omega
  have l11 : w.heap.size + 1 < w1.heap.size := by
    have := hb1.size
    try simp at this
    omega
  clear c1 f1
  replace hb1 := Aside0.mk hb1
  go_wp2_with fail
  go_ret2
  exact ⟨rfl, below_step (below_alloc (below_alloc (Below.refl _ _) _) _) hb1.out⟩
set_option maxRecDepth 100000 in
set_option maxHeartbeats 1000000 in
theorem wrong1 (k0 n0 : Int) (s0 : ByteArray) (k1 n1 : Int) (s1 : ByteArray) (w : World) (hr : rightB k0 n0 s0 = true) (hr1 : rightB k1 n1 s1 = false) :
    Calls Tryd.prog 58 #[.agg #[.int .u8 k0, .int .i64 n0, .string s0], .agg #[.int .u8 k1, .int .i64 n1, .string s1]] w fun e w' => e = .returned (.tuple #[.bool false, .int .i64 2]) ∧ Below w.heap.size w w' := by
  have N := Aside0.mk (value_Right.calls 1 k0 n0 s0 (rightB k0 n0 s0) · (right_f 0 k0 n0 s0))
  rw [hr] at N
  clear hr
  have M := Aside0.mk (value_Right.calls 1 k1 n1 s1 (rightB k1 n1 s1) · (right_f 0 k1 n1 s1))
  rw [hr1] at M
  clear hr1
  go_enter Tryd.func58, Tryd.ntmps58
  go_wp2_with fail
  refine (N.out _).mono ?_
  rintro e w1 ⟨rfl, hb1⟩
  obtain ⟨c1, f1⟩ := bcell hb1
  have c10 := fun o => c1 (w.heap.size) o (by first | (simp; done) | (simp; omega) | omega)
  have f10 := fun o => f1 (w.heap.size) o (by first | (simp; done) | (simp; omega) | omega)
  have c11 := fun o => c1 (w.heap.size + 1) o (by first | (simp; done) | (simp; omega) | omega)
  have f11 := fun o => f1 (w.heap.size + 1) o (by first | (simp; done) | (simp; omega) | omega)
  have l10 : w.heap.size < w1.heap.size := by
    have := hb1.size
    try simp at this
    omega
  have l11 : w.heap.size + 1 < w1.heap.size := by
    have := hb1.size
    try simp at this
    omega
  clear c1 f1
  replace hb1 := Aside0.mk hb1
  go_wp2_with fail
  refine (M.out _).mono ?_
  rintro e w2 ⟨rfl, hb2⟩
  obtain ⟨c2, f2⟩ := bcell hb2
  have c20 := fun o => c2 (w.heap.size) o (by first | (simp; done) | (simp; omega) | omega)
  have f20 := fun o => f2 (w.heap.size) o (by first | (simp; done) | (simp; omega) | omega)
  have c21 := fun o => c2 (w.heap.size + 1) o (by first | (simp; done) | (simp; omega) | omega)
  have f21 := fun o => f2 (w.heap.size + 1) o (by first | (simp; done) | (simp; omega) | omega)
  have l20 : w.heap.size < w2.heap.size := by
    have := hb2.size
    try simp at this
    omega
  have l21 : w.heap.size + 1 < w2.heap.size := by
    have := hb2.size
    try simp at this
    omega
  clear c2 f2
  replace hb2 := Aside0.mk hb2
  go_wp2_with fail
  go_ret2
  exact ⟨rfl, below_step (below_step (below_alloc (below_alloc (Below.refl _ _) _) _) hb1.out) hb2.out⟩
set_option maxRecDepth 100000 in
set_option maxHeartbeats 1000000 in
theorem a_null_null (n0 : Int) (s0 : ByteArray) (n1 : Int) (s1 : ByteArray) (w : World) (hr : rightB 0 n0 s0 = true) (hr1 : rightB 0 n1 s1 = true) :
    Calls Tryd.prog 58 #[.agg #[.int .u8 0, .int .i64 n0, .string s0], .agg #[.int .u8 0, .int .i64 n1, .string s1]] w fun e w' => e = .returned (.tuple #[.bool true, .int .i64 0]) ∧ Below w.heap.size w w' := by
  have N := Aside0.mk (value_Right.calls 1 0 n0 s0 (rightB 0 n0 s0) · (right_f 0 0 n0 s0))
  rw [hr] at N
  clear hr
  have M := Aside0.mk (value_Right.calls 1 0 n1 s1 (rightB 0 n1 s1) · (right_f 0 0 n1 s1))
  rw [hr1] at M
  clear hr1
  have i0 : ∀ W, (Instr.index 92 (.agg #[.int .u8 0, .int .i64 n0, .string s0, .int .u8 0, .int .i64 n1, .string s1]) (.int .i64 0)).run Tryd.prog W = .ok (.agg #[.int .u8 0, .int .i64 n0, .string s0]) W := fun W => by kernel_rfl
  have i1 : ∀ W, (Instr.index 92 (.agg #[.int .u8 0, .int .i64 n0, .string s0, .int .u8 0, .int .i64 n1, .string s1]) (.int .i64 1)).run Tryd.prog W = .ok (.agg #[.int .u8 0, .int .i64 n1, .string s1]) W := fun W => by kernel_rfl
  go_enter Tryd.func58, Tryd.ntmps58
  go_wp2_with fail
  refine (N.out _).mono ?_
  rintro e w1 ⟨rfl, hb1⟩
  obtain ⟨c1, f1⟩ := bcell hb1
  have c10 := fun o => c1 (w.heap.size) o (by first | (simp; done) | (simp; omega) | omega)
  have f10 := fun o => f1 (w.heap.size) o (by first | (simp; done) | (simp; omega) | omega)
  have c11 := fun o => c1 (w.heap.size + 1) o (by first | (simp; done) | (simp; omega) | omega)
  have f11 := fun o => f1 (w.heap.size + 1) o (by first | (simp; done) | (simp; omega) | omega)
  have l10 : w.heap.size < w1.heap.size := by
    have := hb1.size
    try simp at this
    omega
  have l11 : w.heap.size + 1 < w1.heap.size := by
    have := hb1.size
    try simp at this
    omega
  clear c1 f1
  replace hb1 := Aside0.mk hb1
  go_wp2_with fail
  refine (M.out _).mono ?_
  rintro e w2 ⟨rfl, hb2⟩
  obtain ⟨c2, f2⟩ := bcell hb2
  have c20 := fun o => c2 (w.heap.size) o (by first | (simp; done) | (simp; omega) | omega)
  have f20 := fun o => f2 (w.heap.size) o (by first | (simp; done) | (simp; omega) | omega)
  have c21 := fun o => c2 (w.heap.size + 1) o (by first | (simp; done) | (simp; omega) | omega)
  have f21 := fun o => f2 (w.heap.size + 1) o (by first | (simp; done) | (simp; omega) | omega)
  have l20 : w.heap.size < w2.heap.size := by
    have := hb2.size
    try simp at this
    omega
  have l21 : w.heap.size + 1 < w2.heap.size := by
    have := hb2.size
    try simp at this
    omega
  clear c2 f2
  replace hb2 := Aside0.mk hb2
  go_wp2_with fail
  refine wp_loop_rounds 3 ?_
  rw [rounds_succ]
  go_wp2_with fail
  rw [rounds_succ]
  go_wp2_with fail
  rw [rounds_succ]
  go_wp2_with fail
  go_ret2
  exact ⟨rfl, below_alloc (below_alloc (below_step (below_step (below_alloc (below_alloc (Below.refl _ _) _) _) hb1.out) hb2.out) _) _⟩
set_option maxRecDepth 100000 in
set_option maxHeartbeats 1000000 in
theorem a_null_num (n0 : Int) (s0 : ByteArray) (k1 n1 : Int) (s1 : ByteArray) (w : World) (hr : rightB 0 n0 s0 = true) (hr1 : rightB k1 n1 s1 = true) (q1 : numB k1 = true) (z1 : (k1 == 0) = false) (y1 : (k1 != 0) = true) :
    Calls Tryd.prog 58 #[.agg #[.int .u8 0, .int .i64 n0, .string s0], .agg #[.int .u8 k1, .int .i64 n1, .string s1]] w fun e w' => e = .returned (.tuple #[.bool true, .int .i64 0]) ∧ Below w.heap.size w w' := by
  have N := Aside0.mk (value_Right.calls 1 0 n0 s0 (rightB 0 n0 s0) · (right_f 0 0 n0 s0))
  rw [hr] at N
  clear hr
  have M := Aside0.mk (value_Right.calls 1 k1 n1 s1 (rightB k1 n1 s1) · (right_f 0 k1 n1 s1))
  rw [hr1] at M
  clear hr1
  have A1 := Aside0.mk (value_number.calls k1 n1 s1 (numB k1) · (number_f k1 n1 s1))
  rw [q1] at A1
  clear q1
  have i0 : ∀ W, (Instr.index 92 (.agg #[.int .u8 0, .int .i64 n0, .string s0, .int .u8 k1, .int .i64 n1, .string s1]) (.int .i64 0)).run Tryd.prog W = .ok (.agg #[.int .u8 0, .int .i64 n0, .string s0]) W := fun W => by kernel_rfl
  have i1 : ∀ W, (Instr.index 92 (.agg #[.int .u8 0, .int .i64 n0, .string s0, .int .u8 k1, .int .i64 n1, .string s1]) (.int .i64 1)).run Tryd.prog W = .ok (.agg #[.int .u8 k1, .int .i64 n1, .string s1]) W := fun W => by kernel_rfl
  go_enter Tryd.func58, Tryd.ntmps58
  go_wp2_with fail
  refine (N.out _).mono ?_
  rintro e w1 ⟨rfl, hb1⟩
  obtain ⟨c1, f1⟩ := bcell hb1
  have c10 := fun o => c1 (w.heap.size) o (by first | (simp; done) | (simp; omega) | omega)
  have f10 := fun o => f1 (w.heap.size) o (by first | (simp; done) | (simp; omega) | omega)
  have c11 := fun o => c1 (w.heap.size + 1) o (by first | (simp; done) | (simp; omega) | omega)
  have f11 := fun o => f1 (w.heap.size + 1) o (by first | (simp; done) | (simp; omega) | omega)
  have l10 : w.heap.size < w1.heap.size := by
    have := hb1.size
    try simp at this
    omega
  have l11 : w.heap.size + 1 < w1.heap.size := by
    have := hb1.size
    try simp at this
    omega
  clear c1 f1
  replace hb1 := Aside0.mk hb1
  go_wp2_with fail
  refine (M.out _).mono ?_
  rintro e w2 ⟨rfl, hb2⟩
  obtain ⟨c2, f2⟩ := bcell hb2
  have c20 := fun o => c2 (w.heap.size) o (by first | (simp; done) | (simp; omega) | omega)
  have f20 := fun o => f2 (w.heap.size) o (by first | (simp; done) | (simp; omega) | omega)
  have c21 := fun o => c2 (w.heap.size + 1) o (by first | (simp; done) | (simp; omega) | omega)
  have f21 := fun o => f2 (w.heap.size + 1) o (by first | (simp; done) | (simp; omega) | omega)
  have l20 : w.heap.size < w2.heap.size := by
    have := hb2.size
    try simp at this
    omega
  have l21 : w.heap.size + 1 < w2.heap.size := by
    have := hb2.size
    try simp at this
    omega
  clear c2 f2
  replace hb2 := Aside0.mk hb2
  go_wp2_with fail
  refine wp_loop_rounds 3 ?_
  rw [rounds_succ]
  go_wp2_with fail
  rw [rounds_succ]
  go_wp2_with fail
  refine (A1.out _).mono ?_
  rintro e w4 ⟨rfl, hb4⟩
  obtain ⟨c4, f4⟩ := bcell hb4
  have c40 := fun o => c4 (w.heap.size) o (by first | (simp; done) | (simp; omega) | omega)
  have f40 := fun o => f4 (w.heap.size) o (by first | (simp; done) | (simp; omega) | omega)
  have c41 := fun o => c4 (w.heap.size + 1) o (by first | (simp; done) | (simp; omega) | omega)
  have f41 := fun o => f4 (w.heap.size + 1) o (by first | (simp; done) | (simp; omega) | omega)
  have l40 : w.heap.size < w4.heap.size := by
    have := hb4.size
    try simp at this
    omega
  have l41 : w.heap.size + 1 < w4.heap.size := by
    have := hb4.size
    try simp at this
    omega
  clear c4 f4
  replace hb4 := Aside0.mk hb4
  go_wp2_with fail
  rw [rounds_succ]
  go_wp2_with fail
  go_ret2
  exact ⟨rfl, below_step (below_alloc (below_alloc (below_step (below_step (below_alloc (below_alloc (Below.refl _ _) _) _) hb1.out) hb2.out) _) _) hb4.out⟩
set_option maxRecDepth 100000 in
set_option maxHeartbeats 1000000 in
theorem a_null_bad (n0 : Int) (s0 : ByteArray) (k1 n1 : Int) (s1 : ByteArray) (w : World) (hr : rightB 0 n0 s0 = true) (hr1 : rightB k1 n1 s1 = true) (q1 : numB k1 = false) (z1 : (k1 == 0) = false) (y1 : (k1 != 0) = true) :
    Calls Tryd.prog 58 #[.agg #[.int .u8 0, .int .i64 n0, .string s0], .agg #[.int .u8 k1, .int .i64 n1, .string s1]] w fun e w' => e = .returned (.tuple #[.bool false, .int .i64 270]) ∧ Below w.heap.size w w' := by
  have N := Aside0.mk (value_Right.calls 1 0 n0 s0 (rightB 0 n0 s0) · (right_f 0 0 n0 s0))
  rw [hr] at N
  clear hr
  have M := Aside0.mk (value_Right.calls 1 k1 n1 s1 (rightB k1 n1 s1) · (right_f 0 k1 n1 s1))
  rw [hr1] at M
  clear hr1
  have A1 := Aside0.mk (value_number.calls k1 n1 s1 (numB k1) · (number_f k1 n1 s1))
  rw [q1] at A1
  clear q1
  have i0 : ∀ W, (Instr.index 92 (.agg #[.int .u8 0, .int .i64 n0, .string s0, .int .u8 k1, .int .i64 n1, .string s1]) (.int .i64 0)).run Tryd.prog W = .ok (.agg #[.int .u8 0, .int .i64 n0, .string s0]) W := fun W => by kernel_rfl
  have i1 : ∀ W, (Instr.index 92 (.agg #[.int .u8 0, .int .i64 n0, .string s0, .int .u8 k1, .int .i64 n1, .string s1]) (.int .i64 1)).run Tryd.prog W = .ok (.agg #[.int .u8 k1, .int .i64 n1, .string s1]) W := fun W => by kernel_rfl
  go_enter Tryd.func58, Tryd.ntmps58
  go_wp2_with fail
  refine (N.out _).mono ?_
  rintro e w1 ⟨rfl, hb1⟩
  obtain ⟨c1, f1⟩ := bcell hb1
  have c10 := fun o => c1 (w.heap.size) o (by first | (simp; done) | (simp; omega) | omega)
  have f10 := fun o => f1 (w.heap.size) o (by first | (simp; done) | (simp; omega) | omega)
  have c11 := fun o => c1 (w.heap.size + 1) o (by first | (simp; done) | (simp; omega) | omega)
  have f11 := fun o => f1 (w.heap.size + 1) o (by first | (simp; done) | (simp; omega) | omega)
  have l10 : w.heap.size < w1.heap.size := by
    have := hb1.size
    try simp at this
    omega
  have l11 : w.heap.size + 1 < w1.heap.size := by
    have := hb1.size
    try simp at this
    omega
  clear c1 f1
  replace hb1 := Aside0.mk hb1
  go_wp2_with fail
  refine (M.out _).mono ?_
  rintro e w2 ⟨rfl, hb2⟩
  obtain ⟨c2, f2⟩ := bcell hb2
  have c20 := fun o => c2 (w.heap.size) o (by first | (simp; done) | (simp; omega) | omega)
  have f20 := fun o => f2 (w.heap.size) o (by first | (simp; done) | (simp; omega) | omega)
  have c21 := fun o => c2 (w.heap.size + 1) o (by first | (simp; done) | (simp; omega) | omega)
  have f21 := fun o => f2 (w.heap.size + 1) o (by first | (simp; done) | (simp; omega) | omega)
  have l20 : w.heap.size < w2.heap.size := by
    have := hb2.size
    try simp at this
    omega
  have l21 : w.heap.size + 1 < w2.heap.size := by
    have := hb2.size
    try simp at this
    omega
  clear c2 f2
  replace hb2 := Aside0.mk hb2
  go_wp2_with fail
  refine wp_loop_rounds 3 ?_
  rw [rounds_succ]
  go_wp2_with fail
  rw [rounds_succ]
  go_wp2_with fail
  refine (A1.out _).mono ?_
  rintro e w4 ⟨rfl, hb4⟩
  obtain ⟨c4, f4⟩ := bcell hb4
  have c40 := fun o => c4 (w.heap.size) o (by first | (simp; done) | (simp; omega) | omega)
  have f40 := fun o => f4 (w.heap.size) o (by first | (simp; done) | (simp; omega) | omega)
  have c41 := fun o => c4 (w.heap.size + 1) o (by first | (simp; done) | (simp; omega) | omega)
  have f41 := fun o => f4 (w.heap.size + 1) o (by first | (simp; done) | (simp; omega) | omega)
  have l40 : w.heap.size < w4.heap.size := by
    have := hb4.size
    try simp at this
    omega
  have l41 : w.heap.size + 1 < w4.heap.size := by
    have := hb4.size
    try simp at this
    omega
  clear c4 f4
  replace hb4 := Aside0.mk hb4
  go_wp2_with fail
  go_ret2
  exact ⟨rfl, below_step (below_alloc (below_alloc (below_step (below_step (below_alloc (below_alloc (Below.refl _ _) _) _) hb1.out) hb2.out) _) _) hb4.out⟩
set_option maxRecDepth 100000 in
set_option maxHeartbeats 1000000 in
theorem a_num_null (k0 n0 : Int) (s0 : ByteArray) (n1 : Int) (s1 : ByteArray) (w : World) (hr : rightB k0 n0 s0 = true) (hr1 : rightB 0 n1 s1 = true) (q0 : numB k0 = true) (z0 : (k0 == 0) = false) (y0 : (k0 != 0) = true) :
    Calls Tryd.prog 58 #[.agg #[.int .u8 k0, .int .i64 n0, .string s0], .agg #[.int .u8 0, .int .i64 n1, .string s1]] w fun e w' => e = .returned (.tuple #[.bool true, .int .i64 0]) ∧ Below w.heap.size w w' := by
  have N := Aside0.mk (value_Right.calls 1 k0 n0 s0 (rightB k0 n0 s0) · (right_f 0 k0 n0 s0))
  rw [hr] at N
  clear hr
  have M := Aside0.mk (value_Right.calls 1 0 n1 s1 (rightB 0 n1 s1) · (right_f 0 0 n1 s1))
  rw [hr1] at M
  clear hr1
  have A0 := Aside0.mk (value_number.calls k0 n0 s0 (numB k0) · (number_f k0 n0 s0))
  rw [q0] at A0
  clear q0
  have i0 : ∀ W, (Instr.index 92 (.agg #[.int .u8 k0, .int .i64 n0, .string s0, .int .u8 0, .int .i64 n1, .string s1]) (.int .i64 0)).run Tryd.prog W = .ok (.agg #[.int .u8 k0, .int .i64 n0, .string s0]) W := fun W => by kernel_rfl
  have i1 : ∀ W, (Instr.index 92 (.agg #[.int .u8 k0, .int .i64 n0, .string s0, .int .u8 0, .int .i64 n1, .string s1]) (.int .i64 1)).run Tryd.prog W = .ok (.agg #[.int .u8 0, .int .i64 n1, .string s1]) W := fun W => by kernel_rfl
  go_enter Tryd.func58, Tryd.ntmps58
  go_wp2_with fail
  refine (N.out _).mono ?_
  rintro e w1 ⟨rfl, hb1⟩
  obtain ⟨c1, f1⟩ := bcell hb1
  have c10 := fun o => c1 (w.heap.size) o (by first | (simp; done) | (simp; omega) | omega)
  have f10 := fun o => f1 (w.heap.size) o (by first | (simp; done) | (simp; omega) | omega)
  have c11 := fun o => c1 (w.heap.size + 1) o (by first | (simp; done) | (simp; omega) | omega)
  have f11 := fun o => f1 (w.heap.size + 1) o (by first | (simp; done) | (simp; omega) | omega)
  have l10 : w.heap.size < w1.heap.size := by
    have := hb1.size
    try simp at this
    omega
  have l11 : w.heap.size + 1 < w1.heap.size := by
    have := hb1.size
    try simp at this
    omega
  clear c1 f1
  replace hb1 := Aside0.mk hb1
  go_wp2_with fail
  refine (M.out _).mono ?_
  rintro e w2 ⟨rfl, hb2⟩
  obtain ⟨c2, f2⟩ := bcell hb2
  have c20 := fun o => c2 (w.heap.size) o (by first | (simp; done) | (simp; omega) | omega)
  have f20 := fun o => f2 (w.heap.size) o (by first | (simp; done) | (simp; omega) | omega)
  have c21 := fun o => c2 (w.heap.size + 1) o (by first | (simp; done) | (simp; omega) | omega)
  have f21 := fun o => f2 (w.heap.size + 1) o (by first | (simp; done) | (simp; omega) | omega)
  have l20 : w.heap.size < w2.heap.size := by
    have := hb2.size
    try simp at this
    omega
  have l21 : w.heap.size + 1 < w2.heap.size := by
    have := hb2.size
    try simp at this
    omega
  clear c2 f2
  replace hb2 := Aside0.mk hb2
  go_wp2_with fail
  refine wp_loop_rounds 3 ?_
  rw [rounds_succ]
  go_wp2_with fail
  refine (A0.out _).mono ?_
  rintro e w3 ⟨rfl, hb3⟩
  obtain ⟨c3, f3⟩ := bcell hb3
  have c30 := fun o => c3 (w.heap.size) o (by first | (simp; done) | (simp; omega) | omega)
  have f30 := fun o => f3 (w.heap.size) o (by first | (simp; done) | (simp; omega) | omega)
  have c31 := fun o => c3 (w.heap.size + 1) o (by first | (simp; done) | (simp; omega) | omega)
  have f31 := fun o => f3 (w.heap.size + 1) o (by first | (simp; done) | (simp; omega) | omega)
  have l30 : w.heap.size < w3.heap.size := by
    have := hb3.size
    try simp at this
    omega
  have l31 : w.heap.size + 1 < w3.heap.size := by
    have := hb3.size
    try simp at this
    omega
  clear c3 f3
  replace hb3 := Aside0.mk hb3
  go_wp2_with fail
  rw [rounds_succ]
  go_wp2_with fail
  rw [rounds_succ]
  go_wp2_with fail
  go_ret2
  exact ⟨rfl, below_alloc (below_step (below_alloc (below_step (below_step (below_alloc (below_alloc (Below.refl _ _) _) _) hb1.out) hb2.out) _) hb3.out) _⟩
set_option maxRecDepth 100000 in
set_option maxHeartbeats 1000000 in
theorem a_num_num (k0 n0 : Int) (s0 : ByteArray) (k1 n1 : Int) (s1 : ByteArray) (w : World) (hr : rightB k0 n0 s0 = true) (hr1 : rightB k1 n1 s1 = true) (q0 : numB k0 = true) (z0 : (k0 == 0) = false) (y0 : (k0 != 0) = true) (q1 : numB k1 = true) (z1 : (k1 == 0) = false) (y1 : (k1 != 0) = true) :
    Calls Tryd.prog 58 #[.agg #[.int .u8 k0, .int .i64 n0, .string s0], .agg #[.int .u8 k1, .int .i64 n1, .string s1]] w fun e w' => e = .returned (.tuple #[.bool false, .int .i64 0]) ∧ Below w.heap.size w w' := by
  have N := Aside0.mk (value_Right.calls 1 k0 n0 s0 (rightB k0 n0 s0) · (right_f 0 k0 n0 s0))
  rw [hr] at N
  clear hr
  have M := Aside0.mk (value_Right.calls 1 k1 n1 s1 (rightB k1 n1 s1) · (right_f 0 k1 n1 s1))
  rw [hr1] at M
  clear hr1
  have A0 := Aside0.mk (value_number.calls k0 n0 s0 (numB k0) · (number_f k0 n0 s0))
  rw [q0] at A0
  clear q0
  have A1 := Aside0.mk (value_number.calls k1 n1 s1 (numB k1) · (number_f k1 n1 s1))
  rw [q1] at A1
  clear q1
  have i0 : ∀ W, (Instr.index 92 (.agg #[.int .u8 k0, .int .i64 n0, .string s0, .int .u8 k1, .int .i64 n1, .string s1]) (.int .i64 0)).run Tryd.prog W = .ok (.agg #[.int .u8 k0, .int .i64 n0, .string s0]) W := fun W => by kernel_rfl
  have i1 : ∀ W, (Instr.index 92 (.agg #[.int .u8 k0, .int .i64 n0, .string s0, .int .u8 k1, .int .i64 n1, .string s1]) (.int .i64 1)).run Tryd.prog W = .ok (.agg #[.int .u8 k1, .int .i64 n1, .string s1]) W := fun W => by kernel_rfl
  go_enter Tryd.func58, Tryd.ntmps58
  go_wp2_with fail
  refine (N.out _).mono ?_
  rintro e w1 ⟨rfl, hb1⟩
  obtain ⟨c1, f1⟩ := bcell hb1
  have c10 := fun o => c1 (w.heap.size) o (by first | (simp; done) | (simp; omega) | omega)
  have f10 := fun o => f1 (w.heap.size) o (by first | (simp; done) | (simp; omega) | omega)
  have c11 := fun o => c1 (w.heap.size + 1) o (by first | (simp; done) | (simp; omega) | omega)
  have f11 := fun o => f1 (w.heap.size + 1) o (by first | (simp; done) | (simp; omega) | omega)
  have l10 : w.heap.size < w1.heap.size := by
    have := hb1.size
    try simp at this
    omega
  have l11 : w.heap.size + 1 < w1.heap.size := by
    have := hb1.size
    try simp at this
    omega
  clear c1 f1
  replace hb1 := Aside0.mk hb1
  go_wp2_with fail
  refine (M.out _).mono ?_
  rintro e w2 ⟨rfl, hb2⟩
  obtain ⟨c2, f2⟩ := bcell hb2
  have c20 := fun o => c2 (w.heap.size) o (by first | (simp; done) | (simp; omega) | omega)
  have f20 := fun o => f2 (w.heap.size) o (by first | (simp; done) | (simp; omega) | omega)
  have c21 := fun o => c2 (w.heap.size + 1) o (by first | (simp; done) | (simp; omega) | omega)
  have f21 := fun o => f2 (w.heap.size + 1) o (by first | (simp; done) | (simp; omega) | omega)
  have l20 : w.heap.size < w2.heap.size := by
    have := hb2.size
    try simp at this
    omega
  have l21 : w.heap.size + 1 < w2.heap.size := by
    have := hb2.size
    try simp at this
    omega
  clear c2 f2
  replace hb2 := Aside0.mk hb2
  go_wp2_with fail
  refine wp_loop_rounds 3 ?_
  rw [rounds_succ]
  go_wp2_with fail
  refine (A0.out _).mono ?_
  rintro e w3 ⟨rfl, hb3⟩
  obtain ⟨c3, f3⟩ := bcell hb3
  have c30 := fun o => c3 (w.heap.size) o (by first | (simp; done) | (simp; omega) | omega)
  have f30 := fun o => f3 (w.heap.size) o (by first | (simp; done) | (simp; omega) | omega)
  have c31 := fun o => c3 (w.heap.size + 1) o (by first | (simp; done) | (simp; omega) | omega)
  have f31 := fun o => f3 (w.heap.size + 1) o (by first | (simp; done) | (simp; omega) | omega)
  have l30 : w.heap.size < w3.heap.size := by
    have := hb3.size
    try simp at this
    omega
  have l31 : w.heap.size + 1 < w3.heap.size := by
    have := hb3.size
    try simp at this
    omega
  clear c3 f3
  replace hb3 := Aside0.mk hb3
  go_wp2_with fail
  rw [rounds_succ]
  go_wp2_with fail
  refine (A1.out _).mono ?_
  rintro e w4 ⟨rfl, hb4⟩
  obtain ⟨c4, f4⟩ := bcell hb4
  have c40 := fun o => c4 (w.heap.size) o (by first | (simp; done) | (simp; omega) | omega)
  have f40 := fun o => f4 (w.heap.size) o (by first | (simp; done) | (simp; omega) | omega)
  have c41 := fun o => c4 (w.heap.size + 1) o (by first | (simp; done) | (simp; omega) | omega)
  have f41 := fun o => f4 (w.heap.size + 1) o (by first | (simp; done) | (simp; omega) | omega)
  have l40 : w.heap.size < w4.heap.size := by
    have := hb4.size
    try simp at this
    omega
  have l41 : w.heap.size + 1 < w4.heap.size := by
    have := hb4.size
    try simp at this
    omega
  clear c4 f4
  replace hb4 := Aside0.mk hb4
  go_wp2_with fail
  rw [rounds_succ]
  go_wp2_with fail
  go_ret2
  exact ⟨rfl, below_step (below_alloc (below_step (below_alloc (below_step (below_step (below_alloc (below_alloc (Below.refl _ _) _) _) hb1.out) hb2.out) _) hb3.out) _) hb4.out⟩
set_option maxRecDepth 100000 in
set_option maxHeartbeats 1000000 in
theorem a_num_bad (k0 n0 : Int) (s0 : ByteArray) (k1 n1 : Int) (s1 : ByteArray) (w : World) (hr : rightB k0 n0 s0 = true) (hr1 : rightB k1 n1 s1 = true) (q0 : numB k0 = true) (z0 : (k0 == 0) = false) (y0 : (k0 != 0) = true) (q1 : numB k1 = false) (z1 : (k1 == 0) = false) (y1 : (k1 != 0) = true) :
    Calls Tryd.prog 58 #[.agg #[.int .u8 k0, .int .i64 n0, .string s0], .agg #[.int .u8 k1, .int .i64 n1, .string s1]] w fun e w' => e = .returned (.tuple #[.bool false, .int .i64 270]) ∧ Below w.heap.size w w' := by
  have N := Aside0.mk (value_Right.calls 1 k0 n0 s0 (rightB k0 n0 s0) · (right_f 0 k0 n0 s0))
  rw [hr] at N
  clear hr
  have M := Aside0.mk (value_Right.calls 1 k1 n1 s1 (rightB k1 n1 s1) · (right_f 0 k1 n1 s1))
  rw [hr1] at M
  clear hr1
  have A0 := Aside0.mk (value_number.calls k0 n0 s0 (numB k0) · (number_f k0 n0 s0))
  rw [q0] at A0
  clear q0
  have A1 := Aside0.mk (value_number.calls k1 n1 s1 (numB k1) · (number_f k1 n1 s1))
  rw [q1] at A1
  clear q1
  have i0 : ∀ W, (Instr.index 92 (.agg #[.int .u8 k0, .int .i64 n0, .string s0, .int .u8 k1, .int .i64 n1, .string s1]) (.int .i64 0)).run Tryd.prog W = .ok (.agg #[.int .u8 k0, .int .i64 n0, .string s0]) W := fun W => by kernel_rfl
  have i1 : ∀ W, (Instr.index 92 (.agg #[.int .u8 k0, .int .i64 n0, .string s0, .int .u8 k1, .int .i64 n1, .string s1]) (.int .i64 1)).run Tryd.prog W = .ok (.agg #[.int .u8 k1, .int .i64 n1, .string s1]) W := fun W => by kernel_rfl
  go_enter Tryd.func58, Tryd.ntmps58
  go_wp2_with fail
  refine (N.out _).mono ?_
  rintro e w1 ⟨rfl, hb1⟩
  obtain ⟨c1, f1⟩ := bcell hb1
  have c10 := fun o => c1 (w.heap.size) o (by first | (simp; done) | (simp; omega) | omega)
  have f10 := fun o => f1 (w.heap.size) o (by first | (simp; done) | (simp; omega) | omega)
  have c11 := fun o => c1 (w.heap.size + 1) o (by first | (simp; done) | (simp; omega) | omega)
  have f11 := fun o => f1 (w.heap.size + 1) o (by first | (simp; done) | (simp; omega) | omega)
  have l10 : w.heap.size < w1.heap.size := by
    have := hb1.size
    try simp at this
    omega
  have l11 : w.heap.size + 1 < w1.heap.size := by
    have := hb1.size
    try simp at this
    omega
  clear c1 f1
  replace hb1 := Aside0.mk hb1
  go_wp2_with fail
  refine (M.out _).mono ?_
  rintro e w2 ⟨rfl, hb2⟩
  obtain ⟨c2, f2⟩ := bcell hb2
  have c20 := fun o => c2 (w.heap.size) o (by first | (simp; done) | (simp; omega) | omega)
  have f20 := fun o => f2 (w.heap.size) o (by first | (simp; done) | (simp; omega) | omega)
  have c21 := fun o => c2 (w.heap.size + 1) o (by first | (simp; done) | (simp; omega) | omega)
  have f21 := fun o => f2 (w.heap.size + 1) o (by first | (simp; done) | (simp; omega) | omega)
  have l20 : w.heap.size < w2.heap.size := by
    have := hb2.size
    try simp at this
    omega
  have l21 : w.heap.size + 1 < w2.heap.size := by
    have := hb2.size
    try simp at this
    omega
  clear c2 f2
  replace hb2 := Aside0.mk hb2
  go_wp2_with fail
  refine wp_loop_rounds 3 ?_
  rw [rounds_succ]
  go_wp2_with fail
  refine (A0.out _).mono ?_
  rintro e w3 ⟨rfl, hb3⟩
  obtain ⟨c3, f3⟩ := bcell hb3
  have c30 := fun o => c3 (w.heap.size) o (by first | (simp; done) | (simp; omega) | omega)
  have f30 := fun o => f3 (w.heap.size) o (by first | (simp; done) | (simp; omega) | omega)
  have c31 := fun o => c3 (w.heap.size + 1) o (by first | (simp; done) | (simp; omega) | omega)
  have f31 := fun o => f3 (w.heap.size + 1) o (by first | (simp; done) | (simp; omega) | omega)
  have l30 : w.heap.size < w3.heap.size := by
    have := hb3.size
    try simp at this
    omega
  have l31 : w.heap.size + 1 < w3.heap.size := by
    have := hb3.size
    try simp at this
    omega
  clear c3 f3
  replace hb3 := Aside0.mk hb3
  go_wp2_with fail
  rw [rounds_succ]
  go_wp2_with fail
  refine (A1.out _).mono ?_
  rintro e w4 ⟨rfl, hb4⟩
  obtain ⟨c4, f4⟩ := bcell hb4
  have c40 := fun o => c4 (w.heap.size) o (by first | (simp; done) | (simp; omega) | omega)
  have f40 := fun o => f4 (w.heap.size) o (by first | (simp; done) | (simp; omega) | omega)
  have c41 := fun o => c4 (w.heap.size + 1) o (by first | (simp; done) | (simp; omega) | omega)
  have f41 := fun o => f4 (w.heap.size + 1) o (by first | (simp; done) | (simp; omega) | omega)
  have l40 : w.heap.size < w4.heap.size := by
    have := hb4.size
    try simp at this
    omega
  have l41 : w.heap.size + 1 < w4.heap.size := by
    have := hb4.size
    try simp at this
    omega
  clear c4 f4
  replace hb4 := Aside0.mk hb4
  go_wp2_with fail
  go_ret2
  exact ⟨rfl, below_step (below_alloc (below_step (below_alloc (below_step (below_step (below_alloc (below_alloc (Below.refl _ _) _) _) hb1.out) hb2.out) _) hb3.out) _) hb4.out⟩
set_option maxRecDepth 100000 in
set_option maxHeartbeats 1000000 in
theorem a_bad_any (k0 n0 : Int) (s0 : ByteArray) (k1 n1 : Int) (s1 : ByteArray) (w : World) (hr : rightB k0 n0 s0 = true) (hr1 : rightB k1 n1 s1 = true) (q0 : numB k0 = false) (z0 : (k0 == 0) = false) (y0 : (k0 != 0) = true) :
    Calls Tryd.prog 58 #[.agg #[.int .u8 k0, .int .i64 n0, .string s0], .agg #[.int .u8 k1, .int .i64 n1, .string s1]] w fun e w' => e = .returned (.tuple #[.bool false, .int .i64 270]) ∧ Below w.heap.size w w' := by
  have N := Aside0.mk (value_Right.calls 1 k0 n0 s0 (rightB k0 n0 s0) · (right_f 0 k0 n0 s0))
  rw [hr] at N
  clear hr
  have M := Aside0.mk (value_Right.calls 1 k1 n1 s1 (rightB k1 n1 s1) · (right_f 0 k1 n1 s1))
  rw [hr1] at M
  clear hr1
  have A0 := Aside0.mk (value_number.calls k0 n0 s0 (numB k0) · (number_f k0 n0 s0))
  rw [q0] at A0
  clear q0
  have i0 : ∀ W, (Instr.index 92 (.agg #[.int .u8 k0, .int .i64 n0, .string s0, .int .u8 k1, .int .i64 n1, .string s1]) (.int .i64 0)).run Tryd.prog W = .ok (.agg #[.int .u8 k0, .int .i64 n0, .string s0]) W := fun W => by kernel_rfl
  have i1 : ∀ W, (Instr.index 92 (.agg #[.int .u8 k0, .int .i64 n0, .string s0, .int .u8 k1, .int .i64 n1, .string s1]) (.int .i64 1)).run Tryd.prog W = .ok (.agg #[.int .u8 k1, .int .i64 n1, .string s1]) W := fun W => by kernel_rfl
  go_enter Tryd.func58, Tryd.ntmps58
  go_wp2_with fail
  refine (N.out _).mono ?_
  rintro e w1 ⟨rfl, hb1⟩
  obtain ⟨c1, f1⟩ := bcell hb1
  have c10 := fun o => c1 (w.heap.size) o (by first | (simp; done) | (simp; omega) | omega)
  have f10 := fun o => f1 (w.heap.size) o (by first | (simp; done) | (simp; omega) | omega)
  have c11 := fun o => c1 (w.heap.size + 1) o (by first | (simp; done) | (simp; omega) | omega)
  have f11 := fun o => f1 (w.heap.size + 1) o (by first | (simp; done) | (simp; omega) | omega)
  have l10 : w.heap.size < w1.heap.size := by
    have := hb1.size
    try simp at this
    omega
  have l11 : w.heap.size + 1 < w1.heap.size := by
    have := hb1.size
    try simp at this
    omega
  clear c1 f1
  replace hb1 := Aside0.mk hb1
  go_wp2_with fail
  refine (M.out _).mono ?_
  rintro e w2 ⟨rfl, hb2⟩
  obtain ⟨c2, f2⟩ := bcell hb2
  have c20 := fun o => c2 (w.heap.size) o (by first | (simp; done) | (simp; omega) | omega)
  have f20 := fun o => f2 (w.heap.size) o (by first | (simp; done) | (simp; omega) | omega)
  have c21 := fun o => c2 (w.heap.size + 1) o (by first | (simp; done) | (simp; omega) | omega)
  have f21 := fun o => f2 (w.heap.size + 1) o (by first | (simp; done) | (simp; omega) | omega)
  have l20 : w.heap.size < w2.heap.size := by
    have := hb2.size
    try simp at this
    omega
  have l21 : w.heap.size + 1 < w2.heap.size := by
    have := hb2.size
    try simp at this
    omega
  clear c2 f2
  replace hb2 := Aside0.mk hb2
  go_wp2_with fail
  refine wp_loop_rounds 3 ?_
  rw [rounds_succ]
  go_wp2_with fail
  refine (A0.out _).mono ?_
  rintro e w3 ⟨rfl, hb3⟩
  obtain ⟨c3, f3⟩ := bcell hb3
  have c30 := fun o => c3 (w.heap.size) o (by first | (simp; done) | (simp; omega) | omega)
  have f30 := fun o => f3 (w.heap.size) o (by first | (simp; done) | (simp; omega) | omega)
  have c31 := fun o => c3 (w.heap.size + 1) o (by first | (simp; done) | (simp; omega) | omega)
  have f31 := fun o => f3 (w.heap.size + 1) o (by first | (simp; done) | (simp; omega) | omega)
  have l30 : w.heap.size < w3.heap.size := by
    have := hb3.size
    try simp at this
    omega
  have l31 : w.heap.size + 1 < w3.heap.size := by
    have := hb3.size
    try simp at this
    omega
  clear c3 f3
  replace hb3 := Aside0.mk hb3
  go_wp2_with fail
  go_ret2
  exact ⟨rfl, below_step (below_alloc (below_step (below_step (below_alloc (below_alloc (Below.refl _ _) _) _) hb1.out) hb2.out) _) hb3.out⟩
end Go.Proofs.YtbodlnoipkommaaDoor.Wi
/- value.wide: plus and minus (over math/bits.Add64 and Sub64). -/
namespace Go.Proofs.YtbodlnoipkommaaDoor.Wd
open Go.RowKit Go.Shelf Go.Proofs.YtbodlnoipkommaaDoorW.PrintWords Go.Proofs.YtbodlnoipkommaaDoorW.PrintLast Go.Proofs.YtbodlnoipkommaaDoorW.PrintMore
def ren25 : Ren := ⟨fun | 25 => 72 | 26 => 73 | n => n, fun | 22 => 47 | n => n, fun n => n⟩
theorem lays25 : Lays7.n25 Tryd.prog ren25 := {
  mixed := by kernel_rfl
  f25 := Tryd.func72.trans (congrArg some (by kernel_rfl))
  t22 := by kernel_rfl
  a22 := fun _ => by kernel_rfl
  z22 := fun _ => by kernel_rfl
  v22 := fun _ => by kernel_rfl
  i22 := by kernel_rfl }
theorem lays26 : Lays7.n26 Tryd.prog ren25 := {
  mixed := by kernel_rfl
  f26 := Tryd.func73.trans (congrArg some (by kernel_rfl))
  t22 := by kernel_rfl
  a22 := fun _ => by kernel_rfl
  z22 := fun _ => by kernel_rfl
  v22 := fun _ => by kernel_rfl
  i22 := by kernel_rfl }
theorem add64 (x y c : Int) (hx : 0 ≤ x) (hy : 0 ≤ y) (hc0 : 0 ≤ c) (hc : c ≤ 1) (w : World) : (callFunc 72 #[.int .u64 x, .int .u64 y, .int .u64 c]).run Tryd.prog w =
    .ok (.value (.tuple #[.int .u64 ((x + y + c) % 18446744073709551616), .int .u64 ((x + y + c) / 18446744073709551616)])) w := by
  obtain ⟨x, rfl⟩ := Int.eq_ofNat_of_zero_le hx
  obtain ⟨y, rfl⟩ := Int.eq_ofNat_of_zero_le hy
  obtain ⟨c, rfl⟩ := Int.eq_ofNat_of_zero_le hc0
  refine (Any7.bits_Add64 lays25 x y c (by omega) w).trans ?_
  congr 5 <;> omega
theorem add64_0 (x y : Int) (hx : 0 ≤ x) (hy : 0 ≤ y) (w : World) : (callFunc 72 #[.int .u64 x, .int .u64 y, .int .u64 0]).run Tryd.prog w =
    .ok (.value (.tuple #[.int .u64 ((x + y) % 18446744073709551616), .int .u64 ((x + y) / 18446744073709551616)])) w := by
  simpa using add64 x y 0 hx hy (Int.le_refl 0) (by decide) w
/-- The borrow. -/
def bor (x y : Int) : Int := if x < y then 1 else 0
theorem sub64_0 (x y : Int) (hx : 0 ≤ x) (hy : 0 ≤ y) (hy' : y < 18446744073709551616) (w : World) : (callFunc 73 #[.int .u64 x, .int .u64 y, .int .u64 0]).run Tryd.prog w =
    .ok (.value (.tuple #[.int .u64 ((x - y) % 18446744073709551616), .int .u64 (bor x y)])) w := by
  obtain ⟨x, rfl⟩ := Int.eq_ofNat_of_zero_le hx
  obtain ⟨y, rfl⟩ := Int.eq_ofNat_of_zero_le hy
  have e1 : (((x + 18446744073709551616 - y - 0) % 18446744073709551616 : Nat) : Int) = ((x : Int) - y) % 18446744073709551616 := by omega
  have e2 : ((if x < y + 0 then 1 else 0 : Nat) : Int) = bor x y := by unfold bor; split <;> split <;> omega
  rw [← e1, ← e2]
  exact Any7.bits_Sub64 lays26 x y 0 (by omega) w
end Go.Proofs.YtbodlnoipkommaaDoor.Wd

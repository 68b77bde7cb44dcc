/- Merged out of this session's texts: Rd, Rc, Qxf46, Qxf44, Re, Qxf12, Qxf14, Qxf43, Qxf64, Qxf65, Ph, Qxf21, Qxf22, Qxf24, Qxf25 -/
import Derived.Test.YtbodlnoipkommaaDoorProg
import Derived.Test.YtbodlnoipkommaaDoorZt1
import Derived.WalkKit
import Derived.WalkSpells
import Derived.StillTactics
import Derived.Laws.Pointers
import Derived.RowKit3
import Derived.LoopN
import Derived.Deep.QuietTactic
import Derived.BigQuiet
import Derived.Test.YtbodlnoipkommaaDoorZt6
import Derived.Test.YtbodlnoipkommaaDoorZt3
import Derived.Laws.Cover1
import Derived.Test.YtbodlnoipkommaaDoorZt4
set_option linter.unusedVariables false
set_option linter.unusedSimpArgs false
namespace Go.Proofs.YtbodlnoipkommaaDoor.Rd
open Go.Proofs.YtbodlnoipkommaaDoor.Ra Go.Proofs.YtbodlnoipkommaaDoor.Rb
open Go.RowKit Go.Proofs.YtbodlnoipkommaaDoorW.PrintWords Go.Proofs.YtbodlnoipkommaaDoorW.PrintLast Go.Proofs.YtbodlnoipkommaaDoorW.PrintMore
def St (w : World) (s z : Bool) (a0 a1 b0 b1 r0 r1 r2 r3 r4 : Int) (W : World) : Prop :=
  Below w.heap.size w W ∧ W.heap[w.heap.size]? = some (.cells #[.bool s, .int .u64 a0, .int .u64 a1, .int .u64 0, .int .u64 0, .int .u64 0] 56 (0, 0))
  ∧ W.heap[w.heap.size + 1]? = some (.cells #[.bool z, .int .u64 b0, .int .u64 b1, .int .u64 0, .int .u64 0, .int .u64 0] 56 (0, 0))
  ∧ W.heap[w.heap.size + 2]? = some (.cells #[.bool false, .int .u64 0, .int .u64 0, .int .u64 0, .int .u64 0, .int .u64 0] 56 (0, 0))
  ∧ W.heap[w.heap.size + 3]? = some (.cells #[.int .u64 r0, .int .u64 r1, .int .u64 r2, .int .u64 r3, .int .u64 r4] 54 (0, 0))
variable {w W : World} {s z : Bool} {a0 a1 b0 b1 r0 r1 r2 r3 r4 : Int}
theorem St.drew (h : St w s z a0 a1 b0 b1 r0 r1 r2 r3 r4 W) (n : Nat) : St w s z a0 a1 b0 b1 r0 r1 r2 r3 r4 (W.drewN n) := ⟨drew_ok h.1 n, h.2.1, h.2.2.1, h.2.2.2.1, h.2.2.2.2⟩
theorem heap_other (W : World) (b o k : Nat) (v : Value) (h : k ≠ b) : (W.setCell ⟨b, o, none⟩ v).heap[k]? = W.heap[k]? := Below.heap_setCell W ⟨b, o, none⟩ v k h
theorem heap_same (W : World) (b o : Nat) (v : Value) (cs : Array Value) (t : TypeId) (h : W.heap[b]? = some (.cells cs t (0, 0))) : (W.setCell ⟨b, o, none⟩ v).heap[b]? = some (.cells (cs.setIfInBounds o v) t (0, 0)) := by
  unfold World.setCell
  simp [Array.getElem?_modify, h]
theorem St.set0 (h : St w s z a0 a1 b0 b1 r0 r1 r2 r3 r4 W) (x : Int) : St w s z a0 a1 b0 b1 x r1 r2 r3 r4 (W.setCell ⟨w.heap.size + 1 + 1 + 1, 0, none⟩ (.int .u64 x)) :=
  ⟨set_ok h.1 (by omega) _, (heap_other W _ _ _ _ (by omega)).trans h.2.1, (heap_other W _ _ _ _ (by omega)).trans h.2.2.1, (heap_other W _ _ _ _ (by omega)).trans h.2.2.2.1, heap_same W _ _ _ _ _ h.2.2.2.2⟩
theorem St.set1 (h : St w s z a0 a1 b0 b1 r0 r1 r2 r3 r4 W) (x : Int) : St w s z a0 a1 b0 b1 r0 x r2 r3 r4 (W.setCell ⟨w.heap.size + 1 + 1 + 1, 1, none⟩ (.int .u64 x)) :=
  ⟨set_ok h.1 (by omega) _, (heap_other W _ _ _ _ (by omega)).trans h.2.1, (heap_other W _ _ _ _ (by omega)).trans h.2.2.1, (heap_other W _ _ _ _ (by omega)).trans h.2.2.2.1, heap_same W _ _ _ _ _ h.2.2.2.2⟩
theorem St.set2 (h : St w s z a0 a1 b0 b1 r0 r1 r2 r3 r4 W) (x : Int) : St w s z a0 a1 b0 b1 r0 r1 x r3 r4 (W.setCell ⟨w.heap.size + 1 + 1 + 1, 2, none⟩ (.int .u64 x)) :=
  ⟨set_ok h.1 (by omega) _, (heap_other W _ _ _ _ (by omega)).trans h.2.1, (heap_other W _ _ _ _ (by omega)).trans h.2.2.1, (heap_other W _ _ _ _ (by omega)).trans h.2.2.2.1, heap_same W _ _ _ _ _ h.2.2.2.2⟩
theorem St.set3 (h : St w s z a0 a1 b0 b1 r0 r1 r2 r3 r4 W) (x : Int) : St w s z a0 a1 b0 b1 r0 r1 r2 x r4 (W.setCell ⟨w.heap.size + 1 + 1 + 1, 3, none⟩ (.int .u64 x)) :=
  ⟨set_ok h.1 (by omega) _, (heap_other W _ _ _ _ (by omega)).trans h.2.1, (heap_other W _ _ _ _ (by omega)).trans h.2.2.1, (heap_other W _ _ _ _ (by omega)).trans h.2.2.2.1, heap_same W _ _ _ _ _ h.2.2.2.2⟩
theorem St.set4 (h : St w s z a0 a1 b0 b1 r0 r1 r2 r3 r4 W) (x : Int) : St w s z a0 a1 b0 b1 r0 r1 r2 r3 x (W.setCell ⟨w.heap.size + 1 + 1 + 1, 4, none⟩ (.int .u64 x)) :=
  ⟨set_ok h.1 (by omega) _, (heap_other W _ _ _ _ (by omega)).trans h.2.1, (heap_other W _ _ _ _ (by omega)).trans h.2.2.1, (heap_other W _ _ _ _ (by omega)).trans h.2.2.2.1, heap_same W _ _ _ _ _ h.2.2.2.2⟩
theorem St.start (w : World) (s z : Bool) (a0 a1 b0 b1 : Int) : St w s z a0 a1 b0 b1 0 0 0 0 0 ((((w.alloc (.cells #[.bool s, .int .u64 a0, .int .u64 a1, .int .u64 0, .int .u64 0, .int .u64 0] 56)).alloc (.cells #[.bool z, .int .u64 b0, .int .u64 b1, .int .u64 0, .int .u64 0, .int .u64 0] 56)).alloc (.cells #[.bool false, .int .u64 0, .int .u64 0, .int .u64 0, .int .u64 0, .int .u64 0] 56)).alloc (.cells #[.int .u64 0, .int .u64 0, .int .u64 0, .int .u64 0, .int .u64 0] 54)) := by
  have e (w : World) (o : Obj) : (w.alloc o).heap.size = w.heap.size + 1 := Array.size_push _
  refine ⟨below_alloc (below_alloc (below_alloc (below_alloc (Below.refl _ _) _) _) _) _, blk_alloc (blk_alloc (blk_alloc (blk_new w _) _) _) _, ?_, ?_, ?_⟩
  · have h := blk_alloc (blk_alloc (blk_new (w.alloc (.cells #[.bool s, .int .u64 a0, .int .u64 a1, .int .u64 0, .int .u64 0, .int .u64 0] 56)) (.cells #[.bool z, .int .u64 b0, .int .u64 b1, .int .u64 0, .int .u64 0, .int .u64 0] 56)) (.cells #[.bool false, .int .u64 0, .int .u64 0, .int .u64 0, .int .u64 0, .int .u64 0] 56)) (.cells #[.int .u64 0, .int .u64 0, .int .u64 0, .int .u64 0, .int .u64 0] 54)
    rwa [e] at h
  · have h := blk_alloc (blk_new ((w.alloc (.cells #[.bool s, .int .u64 a0, .int .u64 a1, .int .u64 0, .int .u64 0, .int .u64 0] 56)).alloc (.cells #[.bool z, .int .u64 b0, .int .u64 b1, .int .u64 0, .int .u64 0, .int .u64 0] 56)) (.cells #[.bool false, .int .u64 0, .int .u64 0, .int .u64 0, .int .u64 0, .int .u64 0] 56)) (.cells #[.int .u64 0, .int .u64 0, .int .u64 0, .int .u64 0, .int .u64 0] 54)
    rwa [e, e] at h
  · have h := blk_new (((w.alloc (.cells #[.bool s, .int .u64 a0, .int .u64 a1, .int .u64 0, .int .u64 0, .int .u64 0] 56)).alloc (.cells #[.bool z, .int .u64 b0, .int .u64 b1, .int .u64 0, .int .u64 0, .int .u64 0] 56)).alloc (.cells #[.bool false, .int .u64 0, .int .u64 0, .int .u64 0, .int .u64 0, .int .u64 0] 56)) (.cells #[.int .u64 0, .int .u64 0, .int .u64 0, .int .u64 0, .int .u64 0] 54)
    rwa [e, e, e] at h
theorem cutw {G : Act → World → Prop} {a : Act} {W : World} (S : World → Prop) (h : S W) (k : ∀ W', S W' → G a W') : G a W := k W h
theorem St.facts (h : St w s z a0 a1 b0 b1 r0 r1 r2 r3 r4 W) : W.cell? ⟨w.heap.size, 0, none⟩ = some (.bool s) ∧ W.cell? ⟨w.heap.size, 1, none⟩ = some (.int .u64 a0) ∧ W.cell? ⟨w.heap.size, 2, none⟩ = some (.int .u64 a1) ∧ W.cell? ⟨w.heap.size, 3, none⟩ = some (.int .u64 0) ∧ W.cell? ⟨w.heap.size, 4, none⟩ = some (.int .u64 0) ∧ W.cell? ⟨w.heap.size, 5, none⟩ = some (.int .u64 0) ∧ W.cell? ⟨w.heap.size + 1, 0, none⟩ = some (.bool z) ∧ W.cell? ⟨w.heap.size + 1, 1, none⟩ = some (.int .u64 b0) ∧ W.cell? ⟨w.heap.size + 1, 2, none⟩ = some (.int .u64 b1) ∧ W.cell? ⟨w.heap.size + 1, 3, none⟩ = some (.int .u64 0) ∧ W.cell? ⟨w.heap.size + 1, 4, none⟩ = some (.int .u64 0) ∧ W.cell? ⟨w.heap.size + 1, 5, none⟩ = some (.int .u64 0) ∧ W.cell? ⟨w.heap.size + 1 + 1, 0, none⟩ = some (.bool false) ∧ W.cell? ⟨w.heap.size + 1 + 1, 1, none⟩ = some (.int .u64 0) ∧ W.cell? ⟨w.heap.size + 1 + 1, 2, none⟩ = some (.int .u64 0) ∧ W.cell? ⟨w.heap.size + 1 + 1, 3, none⟩ = some (.int .u64 0) ∧ W.cell? ⟨w.heap.size + 1 + 1, 4, none⟩ = some (.int .u64 0) ∧ W.cell? ⟨w.heap.size + 1 + 1, 5, none⟩ = some (.int .u64 0) ∧ W.cell? ⟨w.heap.size + 1 + 1 + 1, 0, none⟩ = some (.int .u64 r0) ∧ W.cell? ⟨w.heap.size + 1 + 1 + 1, 1, none⟩ = some (.int .u64 r1) ∧ W.cell? ⟨w.heap.size + 1 + 1 + 1, 2, none⟩ = some (.int .u64 r2) ∧ W.cell? ⟨w.heap.size + 1 + 1 + 1, 3, none⟩ = some (.int .u64 r3) ∧ W.cell? ⟨w.heap.size + 1 + 1 + 1, 4, none⟩ = some (.int .u64 r4) ∧ W.frozen? ⟨w.heap.size + 1 + 1, 0, none⟩ = false ∧ W.frozen? ⟨w.heap.size + 1 + 1, 1, none⟩ = false ∧ W.frozen? ⟨w.heap.size + 1 + 1, 2, none⟩ = false ∧ W.frozen? ⟨w.heap.size + 1 + 1, 3, none⟩ = false ∧ W.frozen? ⟨w.heap.size + 1 + 1, 4, none⟩ = false ∧ W.frozen? ⟨w.heap.size + 1 + 1, 5, none⟩ = false ∧ W.frozen? ⟨w.heap.size + 1 + 1 + 1, 0, none⟩ = false ∧ W.frozen? ⟨w.heap.size + 1 + 1 + 1, 1, none⟩ = false ∧ W.frozen? ⟨w.heap.size + 1 + 1 + 1, 2, none⟩ = false ∧ W.frozen? ⟨w.heap.size + 1 + 1 + 1, 3, none⟩ = false ∧ W.frozen? ⟨w.heap.size + 1 + 1 + 1, 4, none⟩ = false := by
  obtain ⟨-, h0, h1, h2, h3⟩ := h
  refine ⟨?_, ?_, ?_, ?_, ?_, ?_, ?_, ?_, ?_, ?_, ?_, ?_, ?_, ?_, ?_, ?_, ?_, ?_, ?_, ?_, ?_, ?_, ?_, ?_, ?_, ?_, ?_, ?_, ?_, ?_, ?_, ?_, ?_, ?_⟩
  · exact (blk_cell h0 _).trans rfl
  · exact (blk_cell h0 _).trans rfl
  · exact (blk_cell h0 _).trans rfl
  · exact (blk_cell h0 _).trans rfl
  · exact (blk_cell h0 _).trans rfl
  · exact (blk_cell h0 _).trans rfl
  · exact (blk_cell h1 _).trans rfl
  · exact (blk_cell h1 _).trans rfl
  · exact (blk_cell h1 _).trans rfl
  · exact (blk_cell h1 _).trans rfl
  · exact (blk_cell h1 _).trans rfl
  · exact (blk_cell h1 _).trans rfl
  · exact (blk_cell h2 _).trans rfl
  · exact (blk_cell h2 _).trans rfl
  · exact (blk_cell h2 _).trans rfl
  · exact (blk_cell h2 _).trans rfl
  · exact (blk_cell h2 _).trans rfl
  · exact (blk_cell h2 _).trans rfl
  · exact (blk_cell h3 _).trans rfl
  · exact (blk_cell h3 _).trans rfl
  · exact (blk_cell h3 _).trans rfl
  · exact (blk_cell h3 _).trans rfl
  · exact (blk_cell h3 _).trans rfl
  · simp [World.frozen?, h2]
  · simp [World.frozen?, h2]
  · simp [World.frozen?, h2]
  · simp [World.frozen?, h2]
  · simp [World.frozen?, h2]
  · simp [World.frozen?, h2]
  · simp [World.frozen?, h3]
  · simp [World.frozen?, h3]
  · simp [World.frozen?, h3]
  · simp [World.frozen?, h3]
  · simp [World.frozen?, h3]
set_option maxRecDepth 100000 in
set_option maxHeartbeats 2000000 in
theorem times_walk (s z : Bool) (a0 a1 b0 b1 p00 q00 h00 p01 q01 h01 x2 y2 r2 c2 p10 q10 h10 x4 y4 r4 c4 p11 q11 h11 x5 y5 r5 c5 : Int) (w : World) (la0 : 0 ≤ a0) (ua0 : a0 < 4294967296) (la1 : 0 ≤ a1) (ua1 : a1 < 4294967296) (lb0 : 0 ≤ b0) (ub0 : b0 < 4294967296) (lb1 : 0 ≤ b1) (ub1 : b1 < 4294967296) (ep00 : a0 * b0 = p00) (lp00 : 0 ≤ p00) (up00 : p00 < 18446744073709551616) (eq00 : p00 / 4294967296 = q00) (eh00 : p00 % 4294967296 = h00) (lq00 : 0 ≤ q00) (uq00 : q00 < 4294967296) (lh00 : 0 ≤ h00) (uh00 : h00 < 4294967296) (em_h00 : h00 % 4294967296 = h00) (ed_h00 : h00 / 4294967296 = 0) (ep01 : a0 * b1 = p01) (lp01 : 0 ≤ p01) (up01 : p01 < 18446744073709551616) (eq01 : p01 / 4294967296 = q01) (eh01 : p01 % 4294967296 = h01) (lq01 : 0 ≤ q01) (uq01 : q01 < 4294967296) (lh01 : 0 ≤ h01) (uh01 : h01 < 4294967296) (ex2 : h01 + q00 = x2) (lx2 : 0 ≤ x2) (ux2 : x2 < 18446744073709551616) (ey2 : x2 / 4294967296 = y2) (er2 : x2 % 4294967296 = r2) (ly2 : 0 ≤ y2) (uy2 : y2 < 4294967296) (lr2 : 0 ≤ r2) (ur2 : r2 < 4294967296) (ec2 : q01 + y2 = c2) (lc2 : 0 ≤ c2) (uc2 : c2 < 4294967296) (em_c2 : c2 % 4294967296 = c2) (ed_c2 : c2 / 4294967296 = 0) (ep10 : a1 * b0 = p10) (lp10 : 0 ≤ p10) (up10 : p10 < 18446744073709551616) (eq10 : p10 / 4294967296 = q10) (eh10 : p10 % 4294967296 = h10) (lq10 : 0 ≤ q10) (uq10 : q10 < 4294967296) (lh10 : 0 ≤ h10) (uh10 : h10 < 4294967296) (ex4 : r2 + h10 = x4) (lx4 : 0 ≤ x4) (ux4 : x4 < 18446744073709551616) (ey4 : x4 / 4294967296 = y4) (er4 : x4 % 4294967296 = r4) (ly4 : 0 ≤ y4) (uy4 : y4 < 4294967296) (lr4 : 0 ≤ r4) (ur4 : r4 < 4294967296) (ec4 : q10 + y4 = c4) (lc4 : 0 ≤ c4) (uc4 : c4 < 4294967296) (ep11 : a1 * b1 = p11) (lp11 : 0 ≤ p11) (up11 : p11 < 18446744073709551616) (eq11 : p11 / 4294967296 = q11) (eh11 : p11 % 4294967296 = h11) (lq11 : 0 ≤ q11) (uq11 : q11 < 4294967296) (lh11 : 0 ≤ h11) (uh11 : h11 < 4294967296) (ex5 : c2 + h11 + c4 = x5) (lx5 : 0 ≤ x5) (ux5 : x5 < 18446744073709551616) (ey5 : x5 / 4294967296 = y5) (er5 : x5 % 4294967296 = r5) (ly5 : 0 ≤ y5) (uy5 : y5 < 4294967296) (lr5 : 0 ≤ r5) (ur5 : r5 < 4294967296) (ec5 : q11 + y5 = c5) (lc5 : 0 ≤ c5) (uc5 : c5 < 4294967296) (em_c5 : c5 % 4294967296 = c5) (ed_c5 : c5 / 4294967296 = 0) (em_r5 : r5 % 4294967296 = r5) (ed_r5 : r5 / 4294967296 = 0) :
    Calls Tryd.prog 67 #[.agg #[.bool s, .int .u64 a0, .int .u64 a1, .int .u64 0, .int .u64 0, .int .u64 0], .agg #[.bool z, .int .u64 b0, .int .u64 b1, .int .u64 0, .int .u64 0, .int .u64 0]] w fun e w' => e = .returned (.agg #[.bool (s != z), .int .u64 h00, .int .u64 r4, .int .u64 r5, .int .u64 c5, .int .u64 0]) ∧ Below w.heap.size w w' := by
  have R00 := Aside0.mk (And.intro la0 (And.intro ua0 (And.intro lb0 (And.intro ub0 (And.intro ep00 (And.intro lp00 (And.intro up00 (And.intro eq00 (And.intro eh00 (And.intro lq00 (And.intro uq00 (And.intro lh00 (And.intro uh00 (And.intro em_h00 (ed_h00)))))))))))))))
  have R01 := Aside0.mk (And.intro la0 (And.intro ua0 (And.intro lb1 (And.intro ub1 (And.intro ep01 (And.intro lp01 (And.intro up01 (And.intro eq01 (And.intro eh01 (And.intro lq01 (And.intro uq01 (And.intro lh01 (And.intro uh01 (And.intro lq00 (And.intro uq00 (And.intro ex2 (And.intro lx2 (And.intro ux2 (And.intro ey2 (And.intro er2 (And.intro ly2 (And.intro uy2 (And.intro lr2 (And.intro ur2 (And.intro ec2 (And.intro lc2 (uc2)))))))))))))))))))))))))))
  have R02 := Aside0.mk (And.intro lc2 (And.intro uc2 (And.intro em_c2 (ed_c2))))
  have R10 := Aside0.mk (And.intro la1 (And.intro ua1 (And.intro lb0 (And.intro ub0 (And.intro ep10 (And.intro lp10 (And.intro up10 (And.intro eq10 (And.intro eh10 (And.intro lq10 (And.intro uq10 (And.intro lh10 (And.intro uh10 (And.intro lr2 (And.intro ur2 (And.intro ex4 (And.intro lx4 (And.intro ux4 (And.intro ey4 (And.intro er4 (And.intro ly4 (And.intro uy4 (And.intro lr4 (And.intro ur4 (And.intro ec4 (And.intro lc4 (uc4)))))))))))))))))))))))))))
  have R11 := Aside0.mk (And.intro la1 (And.intro ua1 (And.intro lb1 (And.intro ub1 (And.intro ep11 (And.intro lp11 (And.intro up11 (And.intro eq11 (And.intro eh11 (And.intro lq11 (And.intro uq11 (And.intro lh11 (And.intro uh11 (And.intro lc2 (And.intro uc2 (And.intro lc4 (And.intro uc4 (And.intro ex5 (And.intro lx5 (And.intro ux5 (And.intro ey5 (And.intro er5 (And.intro ly5 (And.intro uy5 (And.intro lr5 (And.intro ur5 (And.intro ec5 (And.intro lc5 (uc5)))))))))))))))))))))))))))))
  have R12 := Aside0.mk (And.intro lc5 (And.intro uc5 (And.intro em_c5 (ed_c5))))
  have R20 := Aside0.mk (And.intro lr5 (And.intro ur5 (And.intro em_r5 (ed_r5))))
  have R21 := Aside0.mk (And.intro lc5 (And.intro uc5 (And.intro em_c5 (ed_c5))))
  have R30 := Aside0.mk (And.intro lc5 (And.intro uc5 (And.intro em_c5 (ed_c5))))
  clear la0 ua0 lb0 ub0 ep00 lp00 up00 eq00 eh00 lq00 uq00 lh00 uh00 em_h00 ed_h00 lb1 ub1 ep01 lp01 up01 eq01 eh01 lq01 uq01 lh01 uh01 ex2 lx2 ux2 ey2 er2 ly2 uy2 lr2 ur2 ec2 lc2 uc2 em_c2 ed_c2 la1 ua1 ep10 lp10 up10 eq10 eh10 lq10 uq10 lh10 uh10 ex4 lx4 ux4 ey4 er4 ly4 uy4 lr4 ur4 ec4 lc4 uc4 ep11 lp11 up11 eq11 eh11 lq11 uq11 lh11 uh11 ex5 lx5 ux5 ey5 er5 ly5 uy5 lr5 ur5 ec5 lc5 uc5 em_c5 ed_c5 em_r5 ed_r5
  go_enter Tryd.func67, Tryd.ntmps67
  go_wp2_with fail
  refine wp_loop_rounds 6 ?_
  refine cutw (St w s z a0 a1 b0 b1 0 0 0 0 0) ?_ ?_
  · with_reducible exact St.start w s z a0 a1 b0 b1
  intro W h
  obtain ⟨k0, k1, k2, k3, k4, k5, k6, k7, k8, k9, k10, k11, k12, k13, k14, k15, k16, k17, k18, k19, k20, k21, k22, k23, k24, k25, k26, k27, k28, k29, k30, k31, k32, k33⟩ := h.facts
  replace h := Aside0.mk h
  rw [rounds_succ]
  go_wp2_with fail
  refine wp_loop_rounds 6 ?_
  obtain ⟨la0, ua0, lb0, ub0, ep00, lp00, up00, eq00, eh00, lq00, uq00, lh00, uh00, em_h00, ed_h00⟩ := R00.out
  rw [rounds_succ]
  go_wp2_with fail
  go_quiet (fail)
  go_wp2_with fail
  go_quiet (fail)
  go_wp2_with fail
  clear la0 ua0 lb0 ub0 ep00 lp00 up00 eq00 eh00 lq00 uq00 lh00 uh00 em_h00 ed_h00
  refine cutw (St w s z a0 a1 b0 b1 h00 0 0 0 0) ?_ ?_
  · repeat (first | with_reducible exact h.out | with_reducible refine St.drew ?_ _ | with_reducible exact St.set0 (St.drew (St.drew h.out _) _) _ | with_reducible exact St.set0 (St.drew h.out _) _ | with_reducible exact St.set0 h.out _)
  clear k0 k1 k2 k3 k4 k5 k6 k7 k8 k9 k10 k11 k12 k13 k14 k15 k16 k17 k18 k19 k20 k21 k22 k23 k24 k25 k26 k27 k28 k29 k30 k31 k32 k33 h
  clear W
  intro W h
  obtain ⟨k0, k1, k2, k3, k4, k5, k6, k7, k8, k9, k10, k11, k12, k13, k14, k15, k16, k17, k18, k19, k20, k21, k22, k23, k24, k25, k26, k27, k28, k29, k30, k31, k32, k33⟩ := h.facts
  replace h := Aside0.mk h
  obtain ⟨la0, ua0, lb1, ub1, ep01, lp01, up01, eq01, eh01, lq01, uq01, lh01, uh01, lq00, uq00, ex2, lx2, ux2, ey2, er2, ly2, uy2, lr2, ur2, ec2, lc2, uc2⟩ := R01.out
  rw [rounds_succ]
  go_wp2_with fail
  go_quiet (fail)
  go_wp2_with fail
  go_quiet (fail)
  go_wp2_with fail
  clear la0 ua0 lb1 ub1 ep01 lp01 up01 eq01 eh01 lq01 uq01 lh01 uh01 lq00 uq00 ex2 lx2 ux2 ey2 er2 ly2 uy2 lr2 ur2 ec2 lc2 uc2
  refine cutw (St w s z a0 a1 b0 b1 h00 r2 0 0 0) ?_ ?_
  · repeat (first | with_reducible exact h.out | with_reducible refine St.drew ?_ _ | with_reducible exact St.set1 (St.drew (St.drew h.out _) _) _ | with_reducible exact St.set1 (St.drew h.out _) _ | with_reducible exact St.set1 h.out _)
  clear k0 k1 k2 k3 k4 k5 k6 k7 k8 k9 k10 k11 k12 k13 k14 k15 k16 k17 k18 k19 k20 k21 k22 k23 k24 k25 k26 k27 k28 k29 k30 k31 k32 k33 h
  clear W
  intro W h
  obtain ⟨k0, k1, k2, k3, k4, k5, k6, k7, k8, k9, k10, k11, k12, k13, k14, k15, k16, k17, k18, k19, k20, k21, k22, k23, k24, k25, k26, k27, k28, k29, k30, k31, k32, k33⟩ := h.facts
  replace h := Aside0.mk h
  obtain ⟨lc2, uc2, em_c2, ed_c2⟩ := R02.out
  rw [rounds_succ]
  go_wp2_with fail
  go_quiet (fail)
  go_wp2_with fail
  go_quiet (fail)
  go_wp2_with fail
  clear lc2 uc2 em_c2 ed_c2
  refine cutw (St w s z a0 a1 b0 b1 h00 r2 c2 0 0) ?_ ?_
  · repeat (first | with_reducible exact h.out | with_reducible refine St.drew ?_ _ | with_reducible exact St.set2 (St.drew (St.drew h.out _) _) _ | with_reducible exact St.set2 (St.drew h.out _) _ | with_reducible exact St.set2 h.out _)
  clear k0 k1 k2 k3 k4 k5 k6 k7 k8 k9 k10 k11 k12 k13 k14 k15 k16 k17 k18 k19 k20 k21 k22 k23 k24 k25 k26 k27 k28 k29 k30 k31 k32 k33 h
  clear W
  intro W h
  obtain ⟨k0, k1, k2, k3, k4, k5, k6, k7, k8, k9, k10, k11, k12, k13, k14, k15, k16, k17, k18, k19, k20, k21, k22, k23, k24, k25, k26, k27, k28, k29, k30, k31, k32, k33⟩ := h.facts
  replace h := Aside0.mk h
  rw [rounds_succ]
  go_wp2_with fail
  go_quiet (fail)
  go_wp2_with fail
  go_quiet (fail)
  go_wp2_with fail
  refine cutw (St w s z a0 a1 b0 b1 h00 r2 c2 0 0) ?_ ?_
  · repeat (first | with_reducible exact h.out | with_reducible refine St.drew ?_ _ | with_reducible exact St.set3 (St.drew (St.drew h.out _) _) _ | with_reducible exact St.set3 (St.drew h.out _) _ | with_reducible exact St.set3 h.out _)
  clear k0 k1 k2 k3 k4 k5 k6 k7 k8 k9 k10 k11 k12 k13 k14 k15 k16 k17 k18 k19 k20 k21 k22 k23 k24 k25 k26 k27 k28 k29 k30 k31 k32 k33 h
  clear W
  intro W h
  obtain ⟨k0, k1, k2, k3, k4, k5, k6, k7, k8, k9, k10, k11, k12, k13, k14, k15, k16, k17, k18, k19, k20, k21, k22, k23, k24, k25, k26, k27, k28, k29, k30, k31, k32, k33⟩ := h.facts
  replace h := Aside0.mk h
  rw [rounds_succ]
  go_wp2_with fail
  go_quiet (fail)
  go_wp2_with fail
  go_quiet (fail)
  go_wp2_with fail
  refine cutw (St w s z a0 a1 b0 b1 h00 r2 c2 0 0) ?_ ?_
  · repeat (first | with_reducible exact h.out | with_reducible refine St.drew ?_ _ | with_reducible exact St.set4 (St.drew (St.drew h.out _) _) _ | with_reducible exact St.set4 (St.drew h.out _) _ | with_reducible exact St.set4 h.out _)
  clear k0 k1 k2 k3 k4 k5 k6 k7 k8 k9 k10 k11 k12 k13 k14 k15 k16 k17 k18 k19 k20 k21 k22 k23 k24 k25 k26 k27 k28 k29 k30 k31 k32 k33 h
  clear W
  intro W h
  obtain ⟨k0, k1, k2, k3, k4, k5, k6, k7, k8, k9, k10, k11, k12, k13, k14, k15, k16, k17, k18, k19, k20, k21, k22, k23, k24, k25, k26, k27, k28, k29, k30, k31, k32, k33⟩ := h.facts
  replace h := Aside0.mk h
  rw [rounds_succ]
  go_wp2_with fail
  rw [rounds_succ]
  go_wp2_with fail
  refine wp_loop_rounds 6 ?_
  obtain ⟨la1, ua1, lb0, ub0, ep10, lp10, up10, eq10, eh10, lq10, uq10, lh10, uh10, lr2, ur2, ex4, lx4, ux4, ey4, er4, ly4, uy4, lr4, ur4, ec4, lc4, uc4⟩ := R10.out
  rw [rounds_succ]
  go_wp2_with fail
  go_quiet (fail)
  go_wp2_with fail
  go_quiet (fail)
  go_wp2_with fail
  clear la1 ua1 lb0 ub0 ep10 lp10 up10 eq10 eh10 lq10 uq10 lh10 uh10 lr2 ur2 ex4 lx4 ux4 ey4 er4 ly4 uy4 lr4 ur4 ec4 lc4 uc4
  refine cutw (St w s z a0 a1 b0 b1 h00 r4 c2 0 0) ?_ ?_
  · repeat (first | with_reducible exact h.out | with_reducible refine St.drew ?_ _ | with_reducible exact St.set1 (St.drew (St.drew h.out _) _) _ | with_reducible exact St.set1 (St.drew h.out _) _ | with_reducible exact St.set1 h.out _)
  clear k0 k1 k2 k3 k4 k5 k6 k7 k8 k9 k10 k11 k12 k13 k14 k15 k16 k17 k18 k19 k20 k21 k22 k23 k24 k25 k26 k27 k28 k29 k30 k31 k32 k33 h
  clear W
  intro W h
  obtain ⟨k0, k1, k2, k3, k4, k5, k6, k7, k8, k9, k10, k11, k12, k13, k14, k15, k16, k17, k18, k19, k20, k21, k22, k23, k24, k25, k26, k27, k28, k29, k30, k31, k32, k33⟩ := h.facts
  replace h := Aside0.mk h
  obtain ⟨la1, ua1, lb1, ub1, ep11, lp11, up11, eq11, eh11, lq11, uq11, lh11, uh11, lc2, uc2, lc4, uc4, ex5, lx5, ux5, ey5, er5, ly5, uy5, lr5, ur5, ec5, lc5, uc5⟩ := R11.out
  rw [rounds_succ]
  go_wp2_with fail
  go_quiet (fail)
  go_wp2_with fail
  go_quiet (fail)
  go_wp2_with fail
  clear la1 ua1 lb1 ub1 ep11 lp11 up11 eq11 eh11 lq11 uq11 lh11 uh11 lc2 uc2 lc4 uc4 ex5 lx5 ux5 ey5 er5 ly5 uy5 lr5 ur5 ec5 lc5 uc5
  refine cutw (St w s z a0 a1 b0 b1 h00 r4 r5 0 0) ?_ ?_
  · repeat (first | with_reducible exact h.out | with_reducible refine St.drew ?_ _ | with_reducible exact St.set2 (St.drew (St.drew h.out _) _) _ | with_reducible exact St.set2 (St.drew h.out _) _ | with_reducible exact St.set2 h.out _)
  clear k0 k1 k2 k3 k4 k5 k6 k7 k8 k9 k10 k11 k12 k13 k14 k15 k16 k17 k18 k19 k20 k21 k22 k23 k24 k25 k26 k27 k28 k29 k30 k31 k32 k33 h
  clear W
  intro W h
  obtain ⟨k0, k1, k2, k3, k4, k5, k6, k7, k8, k9, k10, k11, k12, k13, k14, k15, k16, k17, k18, k19, k20, k21, k22, k23, k24, k25, k26, k27, k28, k29, k30, k31, k32, k33⟩ := h.facts
  replace h := Aside0.mk h
  obtain ⟨lc5, uc5, em_c5, ed_c5⟩ := R12.out
  rw [rounds_succ]
  go_wp2_with fail
  go_quiet (fail)
  go_wp2_with fail
  go_quiet (fail)
  go_wp2_with fail
  clear lc5 uc5 em_c5 ed_c5
  refine cutw (St w s z a0 a1 b0 b1 h00 r4 r5 c5 0) ?_ ?_
  · repeat (first | with_reducible exact h.out | with_reducible refine St.drew ?_ _ | with_reducible exact St.set3 (St.drew (St.drew h.out _) _) _ | with_reducible exact St.set3 (St.drew h.out _) _ | with_reducible exact St.set3 h.out _)
  clear k0 k1 k2 k3 k4 k5 k6 k7 k8 k9 k10 k11 k12 k13 k14 k15 k16 k17 k18 k19 k20 k21 k22 k23 k24 k25 k26 k27 k28 k29 k30 k31 k32 k33 h
  clear W
  intro W h
  obtain ⟨k0, k1, k2, k3, k4, k5, k6, k7, k8, k9, k10, k11, k12, k13, k14, k15, k16, k17, k18, k19, k20, k21, k22, k23, k24, k25, k26, k27, k28, k29, k30, k31, k32, k33⟩ := h.facts
  replace h := Aside0.mk h
  rw [rounds_succ]
  go_wp2_with fail
  go_quiet (fail)
  go_wp2_with fail
  go_quiet (fail)
  go_wp2_with fail
  refine cutw (St w s z a0 a1 b0 b1 h00 r4 r5 c5 0) ?_ ?_
  · repeat (first | with_reducible exact h.out | with_reducible refine St.drew ?_ _ | with_reducible exact St.set4 (St.drew (St.drew h.out _) _) _ | with_reducible exact St.set4 (St.drew h.out _) _ | with_reducible exact St.set4 h.out _)
  clear k0 k1 k2 k3 k4 k5 k6 k7 k8 k9 k10 k11 k12 k13 k14 k15 k16 k17 k18 k19 k20 k21 k22 k23 k24 k25 k26 k27 k28 k29 k30 k31 k32 k33 h
  clear W
  intro W h
  obtain ⟨k0, k1, k2, k3, k4, k5, k6, k7, k8, k9, k10, k11, k12, k13, k14, k15, k16, k17, k18, k19, k20, k21, k22, k23, k24, k25, k26, k27, k28, k29, k30, k31, k32, k33⟩ := h.facts
  replace h := Aside0.mk h
  rw [rounds_succ]
  go_wp2_with fail
  rw [rounds_succ]
  go_wp2_with fail
  refine wp_loop_rounds 6 ?_
  obtain ⟨lr5, ur5, em_r5, ed_r5⟩ := R20.out
  rw [rounds_succ]
  go_wp2_with fail
  go_quiet (fail)
  go_wp2_with fail
  go_quiet (fail)
  go_wp2_with fail
  clear lr5 ur5 em_r5 ed_r5
  refine cutw (St w s z a0 a1 b0 b1 h00 r4 r5 c5 0) ?_ ?_
  · repeat (first | with_reducible exact h.out | with_reducible refine St.drew ?_ _ | with_reducible exact St.set2 (St.drew (St.drew h.out _) _) _ | with_reducible exact St.set2 (St.drew h.out _) _ | with_reducible exact St.set2 h.out _)
  clear k0 k1 k2 k3 k4 k5 k6 k7 k8 k9 k10 k11 k12 k13 k14 k15 k16 k17 k18 k19 k20 k21 k22 k23 k24 k25 k26 k27 k28 k29 k30 k31 k32 k33 h
  clear W
  intro W h
  obtain ⟨k0, k1, k2, k3, k4, k5, k6, k7, k8, k9, k10, k11, k12, k13, k14, k15, k16, k17, k18, k19, k20, k21, k22, k23, k24, k25, k26, k27, k28, k29, k30, k31, k32, k33⟩ := h.facts
  replace h := Aside0.mk h
  obtain ⟨lc5, uc5, em_c5, ed_c5⟩ := R21.out
  rw [rounds_succ]
  go_wp2_with fail
  go_quiet (fail)
  go_wp2_with fail
  go_quiet (fail)
  go_wp2_with fail
  clear lc5 uc5 em_c5 ed_c5
  refine cutw (St w s z a0 a1 b0 b1 h00 r4 r5 c5 0) ?_ ?_
  · repeat (first | with_reducible exact h.out | with_reducible refine St.drew ?_ _ | with_reducible exact St.set3 (St.drew (St.drew h.out _) _) _ | with_reducible exact St.set3 (St.drew h.out _) _ | with_reducible exact St.set3 h.out _)
  clear k0 k1 k2 k3 k4 k5 k6 k7 k8 k9 k10 k11 k12 k13 k14 k15 k16 k17 k18 k19 k20 k21 k22 k23 k24 k25 k26 k27 k28 k29 k30 k31 k32 k33 h
  clear W
  intro W h
  obtain ⟨k0, k1, k2, k3, k4, k5, k6, k7, k8, k9, k10, k11, k12, k13, k14, k15, k16, k17, k18, k19, k20, k21, k22, k23, k24, k25, k26, k27, k28, k29, k30, k31, k32, k33⟩ := h.facts
  replace h := Aside0.mk h
  rw [rounds_succ]
  go_wp2_with fail
  go_quiet (fail)
  go_wp2_with fail
  go_quiet (fail)
  go_wp2_with fail
  refine cutw (St w s z a0 a1 b0 b1 h00 r4 r5 c5 0) ?_ ?_
  · repeat (first | with_reducible exact h.out | with_reducible refine St.drew ?_ _ | with_reducible exact St.set4 (St.drew (St.drew h.out _) _) _ | with_reducible exact St.set4 (St.drew h.out _) _ | with_reducible exact St.set4 h.out _)
  clear k0 k1 k2 k3 k4 k5 k6 k7 k8 k9 k10 k11 k12 k13 k14 k15 k16 k17 k18 k19 k20 k21 k22 k23 k24 k25 k26 k27 k28 k29 k30 k31 k32 k33 h
  clear W
  intro W h
  obtain ⟨k0, k1, k2, k3, k4, k5, k6, k7, k8, k9, k10, k11, k12, k13, k14, k15, k16, k17, k18, k19, k20, k21, k22, k23, k24, k25, k26, k27, k28, k29, k30, k31, k32, k33⟩ := h.facts
  replace h := Aside0.mk h
  rw [rounds_succ]
  go_wp2_with fail
  rw [rounds_succ]
  go_wp2_with fail
  refine wp_loop_rounds 6 ?_
  obtain ⟨lc5, uc5, em_c5, ed_c5⟩ := R30.out
  rw [rounds_succ]
  go_wp2_with fail
  go_quiet (fail)
  go_wp2_with fail
  go_quiet (fail)
  go_wp2_with fail
  clear lc5 uc5 em_c5 ed_c5
  refine cutw (St w s z a0 a1 b0 b1 h00 r4 r5 c5 0) ?_ ?_
  · repeat (first | with_reducible exact h.out | with_reducible refine St.drew ?_ _ | with_reducible exact St.set3 (St.drew (St.drew h.out _) _) _ | with_reducible exact St.set3 (St.drew h.out _) _ | with_reducible exact St.set3 h.out _)
  clear k0 k1 k2 k3 k4 k5 k6 k7 k8 k9 k10 k11 k12 k13 k14 k15 k16 k17 k18 k19 k20 k21 k22 k23 k24 k25 k26 k27 k28 k29 k30 k31 k32 k33 h
  clear W
  intro W h
  obtain ⟨k0, k1, k2, k3, k4, k5, k6, k7, k8, k9, k10, k11, k12, k13, k14, k15, k16, k17, k18, k19, k20, k21, k22, k23, k24, k25, k26, k27, k28, k29, k30, k31, k32, k33⟩ := h.facts
  replace h := Aside0.mk h
  rw [rounds_succ]
  go_wp2_with fail
  go_quiet (fail)
  go_wp2_with fail
  go_quiet (fail)
  go_wp2_with fail
  refine cutw (St w s z a0 a1 b0 b1 h00 r4 r5 c5 0) ?_ ?_
  · repeat (first | with_reducible exact h.out | with_reducible refine St.drew ?_ _ | with_reducible exact St.set4 (St.drew (St.drew h.out _) _) _ | with_reducible exact St.set4 (St.drew h.out _) _ | with_reducible exact St.set4 h.out _)
  clear k0 k1 k2 k3 k4 k5 k6 k7 k8 k9 k10 k11 k12 k13 k14 k15 k16 k17 k18 k19 k20 k21 k22 k23 k24 k25 k26 k27 k28 k29 k30 k31 k32 k33 h
  clear W
  intro W h
  obtain ⟨k0, k1, k2, k3, k4, k5, k6, k7, k8, k9, k10, k11, k12, k13, k14, k15, k16, k17, k18, k19, k20, k21, k22, k23, k24, k25, k26, k27, k28, k29, k30, k31, k32, k33⟩ := h.facts
  replace h := Aside0.mk h
  rw [rounds_succ]
  go_wp2_with fail
  rw [rounds_succ]
  go_wp2_with fail
  refine wp_loop_rounds 6 ?_
  rw [rounds_succ]
  go_wp2_with fail
  go_quiet (fail)
  go_wp2_with fail
  go_quiet (fail)
  go_wp2_with fail
  refine cutw (St w s z a0 a1 b0 b1 h00 r4 r5 c5 0) ?_ ?_
  · repeat (first | with_reducible exact h.out | with_reducible refine St.drew ?_ _ | with_reducible exact St.set4 (St.drew (St.drew h.out _) _) _ | with_reducible exact St.set4 (St.drew h.out _) _ | with_reducible exact St.set4 h.out _)
  clear k0 k1 k2 k3 k4 k5 k6 k7 k8 k9 k10 k11 k12 k13 k14 k15 k16 k17 k18 k19 k20 k21 k22 k23 k24 k25 k26 k27 k28 k29 k30 k31 k32 k33 h
  clear W
  intro W h
  obtain ⟨k0, k1, k2, k3, k4, k5, k6, k7, k8, k9, k10, k11, k12, k13, k14, k15, k16, k17, k18, k19, k20, k21, k22, k23, k24, k25, k26, k27, k28, k29, k30, k31, k32, k33⟩ := h.facts
  replace h := Aside0.mk h
  rw [rounds_succ]
  go_wp2_with fail
  rw [rounds_succ]
  go_wp2_with fail
  simp [bodyPost, results, Tryd.results67, go_sem, k12, k13, k14, k15, k16, k17, k23, k24, k25, k26, k27, k28]
  refine ⟨by cases s <;> cases z <;> rfl, ?_⟩
  refine set_ok (set_ok (set_ok (set_ok (set_ok (set_ok h.out.1 ?_ _) ?_ _) ?_ _) ?_ _) ?_ _) ?_ _ <;> omega
def chanceryref17_times.f (s : Bool) (a0 a1 a2 a3 a4 : Int) (z : Bool) (b0 b1 b2 b3 b4 : Int) : Option (Bool × Int × Int × Int × Int × Int) :=
  if Digs a0 a1 a2 a3 a4 ∧ Digs b0 b1 b2 b3 b4 ∧ (a2 = 0 ∧ a3 = 0 ∧ a4 = 0) ∧ b2 = 0 ∧ b3 = 0 ∧ b4 = 0 then some (s != z, d0 (num a0 a1 a2 a3 a4 * num b0 b1 b2 b3 b4), d1 (num a0 a1 a2 a3 a4 * num b0 b1 b2 b3 b4), d2 (num a0 a1 a2 a3 a4 * num b0 b1 b2 b3 b4), d3 (num a0 a1 a2 a3 a4 * num b0 b1 b2 b3 b4), d4 (num a0 a1 a2 a3 a4 * num b0 b1 b2 b3 b4)) else none
set_option maxRecDepth 100000 in
set_option maxHeartbeats 1000000 in
theorem chanceryref17_times.calls (s : Bool) (a0 a1 a2 a3 a4 : Int) (z : Bool) (b0 b1 b2 b3 b4 : Int) (g0 : Bool) (g1 g2 g3 g4 g5 : Int) (w : World) (h : chanceryref17_times.f s a0 a1 a2 a3 a4 z b0 b1 b2 b3 b4 = some (g0, g1, g2, g3, g4, g5)) :
    Calls Tryd.prog 67 #[.agg #[.bool s, .int .u64 a0, .int .u64 a1, .int .u64 a2, .int .u64 a3, .int .u64 a4], .agg #[.bool z, .int .u64 b0, .int .u64 b1, .int .u64 b2, .int .u64 b3, .int .u64 b4]] w fun e w' => e = .returned (.agg #[.bool g0, .int .u64 g1, .int .u64 g2, .int .u64 g3, .int .u64 g4, .int .u64 g5]) ∧ Below w.heap.size w w' := by
  unfold chanceryref17_times.f at h
  by_cases hc : Digs a0 a1 a2 a3 a4 ∧ Digs b0 b1 b2 b3 b4 ∧ (a2 = 0 ∧ a3 = 0 ∧ a4 = 0) ∧ b2 = 0 ∧ b3 = 0 ∧ b4 = 0
  case neg => rw [if_neg hc] at h; cases h
  rw [if_pos hc] at h
  injection h with h
  simp only [Prod.mk.injEq] at h
  obtain ⟨q0, q1, q2, q3, q4, q5⟩ := h
  obtain ⟨⟨⟨la0, ua0⟩, ⟨la1, ua1⟩, -⟩, ⟨⟨lb0, ub0⟩, ⟨lb1, ub1⟩, -⟩, ⟨rfl, rfl, rfl⟩, rfl, rfl, rfl⟩ := hc
  have pr (x y : Int) (h0 : 0 ≤ x) (h1 : x < 4294967296) (h2 : 0 ≤ y) (h3 : y < 4294967296) : 0 ≤ x * y ∧ x * y ≤ 18446744065119617025 := by
    refine ⟨Int.mul_nonneg h0 h2, ?_⟩
    calc x * y ≤ 4294967295 * y := Int.mul_le_mul_of_nonneg_right (by omega) h2
      _ ≤ 4294967295 * 4294967295 := Int.mul_le_mul_of_nonneg_left (by omega) (by decide)
      _ = 18446744065119617025 := by decide
  have hN : num a0 a1 0 0 0 * num b0 b1 0 0 0 = a0 * b0 + (a0 * b1 + a1 * b0) * 4294967296 + a1 * b1 * 18446744073709551616 := by
    simp only [num, Int.zero_mul, Int.add_zero]
    rw [Int.add_mul, Int.mul_add, Int.mul_add]
    have e1 : a0 * (b1 * 4294967296) = a0 * b1 * 4294967296 := (Int.mul_assoc _ _ _).symm
    have e2 : a1 * 4294967296 * b0 = a1 * b0 * 4294967296 := by rw [Int.mul_assoc, Int.mul_comm 4294967296, ← Int.mul_assoc]
    have e3 : a1 * 4294967296 * (b1 * 4294967296) = a1 * b1 * 18446744073709551616 := by
      rw [Int.mul_assoc, Int.mul_comm 4294967296, Int.mul_assoc, ← Int.mul_assoc a1]
      rfl
    rw [e1, e2, e3]
    omega
  obtain ⟨lp00, up00⟩ := pr a0 b0 la0 ua0 lb0 ub0
  obtain ⟨p00, ep00⟩ : ∃ p, a0 * b0 = p := ⟨_, rfl⟩
  rw [ep00] at lp00 up00 hN
  obtain ⟨lp01, up01⟩ := pr a0 b1 la0 ua0 lb1 ub1
  obtain ⟨p01, ep01⟩ : ∃ p, a0 * b1 = p := ⟨_, rfl⟩
  rw [ep01] at lp01 up01 hN
  obtain ⟨lp10, up10⟩ := pr a1 b0 la1 ua1 lb0 ub0
  obtain ⟨p10, ep10⟩ : ∃ p, a1 * b0 = p := ⟨_, rfl⟩
  rw [ep10] at lp10 up10 hN
  obtain ⟨lp11, up11⟩ := pr a1 b1 la1 ua1 lb1 ub1
  obtain ⟨p11, ep11⟩ : ∃ p, a1 * b1 = p := ⟨_, rfl⟩
  rw [ep11] at lp11 up11 hN
  rw [hN] at q1 q2 q3 q4 q5
  clear hN pr
  obtain ⟨q00, eq00⟩ : ∃ t, p00 / 4294967296 = t := ⟨_, rfl⟩
  obtain ⟨h00, eh00⟩ : ∃ t, p00 % 4294967296 = t := ⟨_, rfl⟩
  have lq00 : 0 ≤ q00 := by omega
  have uq00 : q00 < 4294967296 := by omega
  have lh00 : 0 ≤ h00 := by omega
  have uh00 : h00 < 4294967296 := by omega
  have em_h00 : h00 % 4294967296 = h00 := by omega
  have ed_h00 : h00 / 4294967296 = 0 := by omega
  obtain ⟨q01, eq01⟩ : ∃ t, p01 / 4294967296 = t := ⟨_, rfl⟩
  obtain ⟨h01, eh01⟩ : ∃ t, p01 % 4294967296 = t := ⟨_, rfl⟩
  have lq01 : 0 ≤ q01 := by omega
  have uq01 : q01 < 4294967296 := by omega
  have lh01 : 0 ≤ h01 := by omega
  have uh01 : h01 < 4294967296 := by omega
  obtain ⟨x2, ex2⟩ : ∃ t, h01 + q00 = t := ⟨_, rfl⟩
  have lx2 : 0 ≤ x2 := by omega
  have ux2 : x2 < 18446744073709551616 := by omega
  obtain ⟨y2, ey2⟩ : ∃ t, x2 / 4294967296 = t := ⟨_, rfl⟩
  obtain ⟨r2, er2⟩ : ∃ t, x2 % 4294967296 = t := ⟨_, rfl⟩
  have ly2 : 0 ≤ y2 := by omega
  have uy2 : y2 < 4294967296 := by omega
  have lr2 : 0 ≤ r2 := by omega
  have ur2 : r2 < 4294967296 := by omega
  obtain ⟨c2, ec2⟩ : ∃ t, q01 + y2 = t := ⟨_, rfl⟩
  have lc2 : 0 ≤ c2 := by omega
  have uc2 : c2 < 4294967296 := by omega
  have em_c2 : c2 % 4294967296 = c2 := by omega
  have ed_c2 : c2 / 4294967296 = 0 := by omega
  obtain ⟨q10, eq10⟩ : ∃ t, p10 / 4294967296 = t := ⟨_, rfl⟩
  obtain ⟨h10, eh10⟩ : ∃ t, p10 % 4294967296 = t := ⟨_, rfl⟩
  have lq10 : 0 ≤ q10 := by omega
  have uq10 : q10 < 4294967296 := by omega
  have lh10 : 0 ≤ h10 := by omega
  have uh10 : h10 < 4294967296 := by omega
  obtain ⟨x4, ex4⟩ : ∃ t, r2 + h10 = t := ⟨_, rfl⟩
  have lx4 : 0 ≤ x4 := by omega
  have ux4 : x4 < 18446744073709551616 := by omega
  obtain ⟨y4, ey4⟩ : ∃ t, x4 / 4294967296 = t := ⟨_, rfl⟩
  obtain ⟨r4, er4⟩ : ∃ t, x4 % 4294967296 = t := ⟨_, rfl⟩
  have ly4 : 0 ≤ y4 := by omega
  have uy4 : y4 < 4294967296 := by omega
  have lr4 : 0 ≤ r4 := by omega
  have ur4 : r4 < 4294967296 := by omega
  obtain ⟨c4, ec4⟩ : ∃ t, q10 + y4 = t := ⟨_, rfl⟩
  have lc4 : 0 ≤ c4 := by omega
  have uc4 : c4 < 4294967296 := by omega
  obtain ⟨q11, eq11⟩ : ∃ t, p11 / 4294967296 = t := ⟨_, rfl⟩
  obtain ⟨h11, eh11⟩ : ∃ t, p11 % 4294967296 = t := ⟨_, rfl⟩
  have lq11 : 0 ≤ q11 := by omega
  have uq11 : q11 < 4294967296 := by omega
  have lh11 : 0 ≤ h11 := by omega
  have uh11 : h11 < 4294967296 := by omega
  obtain ⟨x5, ex5⟩ : ∃ t, c2 + h11 + c4 = t := ⟨_, rfl⟩
  have lx5 : 0 ≤ x5 := by omega
  have ux5 : x5 < 18446744073709551616 := by omega
  obtain ⟨y5, ey5⟩ : ∃ t, x5 / 4294967296 = t := ⟨_, rfl⟩
  obtain ⟨r5, er5⟩ : ∃ t, x5 % 4294967296 = t := ⟨_, rfl⟩
  have ly5 : 0 ≤ y5 := by omega
  have uy5 : y5 < 4294967296 := by omega
  have lr5 : 0 ≤ r5 := by omega
  have ur5 : r5 < 4294967296 := by omega
  obtain ⟨c5, ec5⟩ : ∃ t, q11 + y5 = t := ⟨_, rfl⟩
  have lc5 : 0 ≤ c5 := by omega
  have uc5 : c5 < 4294967296 := by omega
  have em_c5 : c5 % 4294967296 = c5 := by omega
  have ed_c5 : c5 / 4294967296 = 0 := by omega
  have em_r5 : r5 % 4294967296 = r5 := by omega
  have ed_r5 : r5 / 4294967296 = 0 := by omega
  have hf := five_eq (p00 + (p01 + p10) * 4294967296 + p11 * 18446744073709551616) h00 r4 r5 c5 0 0 (by omega) (by omega) (by omega) (by omega) (by omega) (by omega) (by omega) (by omega) (by omega) (by omega) (by simp only [num]; omega)
  obtain ⟨t0, t1, t2, t3, t4⟩ := hf
  rw [← t0] at q1; rw [← t1] at q2; rw [← t2] at q3; rw [← t3] at q4; rw [← t4] at q5
  subst q0 q1 q2 q3 q4 q5
  exact times_walk s z a0 a1 b0 b1 p00 q00 h00 p01 q01 h01 x2 y2 r2 c2 p10 q10 h10 x4 y4 r4 c4 p11 q11 h11 x5 y5 r5 c5 w la0 ua0 la1 ua1 lb0 ub0 lb1 ub1 ep00 lp00 (by omega) eq00 eh00 lq00 uq00 lh00 uh00 em_h00 ed_h00 ep01 lp01 (by omega) eq01 eh01 lq01 uq01 lh01 uh01 ex2 lx2 ux2 ey2 er2 ly2 uy2 lr2 ur2 ec2 lc2 uc2 em_c2 ed_c2 ep10 lp10 (by omega) eq10 eh10 lq10 uq10 lh10 uh10 ex4 lx4 ux4 ey4 er4 ly4 uy4 lr4 ur4 ec4 lc4 uc4 ep11 lp11 (by omega) eq11 eh11 lq11 uq11 lh11 uh11 ex5 lx5 ux5 ey5 er5 ly5 uy5 lr5 ur5 ec5 lc5 uc5 em_c5 ed_c5 em_r5 ed_r5
end Go.Proofs.YtbodlnoipkommaaDoor.Rd
namespace Go.Proofs.YtbodlnoipkommaaDoor.Rc
open Go.Proofs.YtbodlnoipkommaaDoor.Ra Go.Proofs.YtbodlnoipkommaaDoor.Rb
open Go.RowKit Go.Proofs.YtbodlnoipkommaaDoorW.PrintWords Go.Proofs.YtbodlnoipkommaaDoorW.PrintLast Go.Proofs.YtbodlnoipkommaaDoorW.PrintMore
set_option maxRecDepth 100000 in
set_option maxHeartbeats 1000000 in
theorem big_pos (n : Int) (w : World) (h0 : 0 ≤ n) (h1 : n < 9223372036854775808) :
    Calls Tryd.prog 66 #[.int .i64 n] w fun e w' => e = .returned (.agg #[.bool false, .int .u64 (n % 4294967296), .int .u64 (n / 4294967296), .int .u64 0, .int .u64 0, .int .u64 0]) ∧ Below w.heap.size w w' := by
  have e0 : ¬ (n < 0) := by omega
  have e1 : n / 4294967296 % 18446744073709551616 = n / 4294967296 := by omega
  go_enter Tryd.func66, Tryd.ntmps66
  go_wp2_with fail
  simp [bodyPost, results, Tryd.results66, go_sem]
  try refine ⟨by assumption, ?_⟩
  repeat' (first | with_reducible exact Below.refl _ _ | with_reducible refine drew_ok ?_ _ | with_reducible refine set_ok ?_ ?_ _ | with_reducible refine below_alloc ?_ _)
  all_goals first | omega | trace_state
set_option maxRecDepth 100000 in
set_option maxHeartbeats 1000000 in
theorem big_neg (n m : Int) (w : World) (h0 : n < 0) (h1 : -9223372036854775808 ≤ n) (hm : IntKind.u64.wrap (-(IntKind.u64.wrap n)) = m) (m0 : 0 ≤ m) (m1 : m < 18446744073709551616) :
    Calls Tryd.prog 66 #[.int .i64 n] w fun e w' => e = .returned (.agg #[.bool true, .int .u64 (m % 4294967296), .int .u64 (m / 4294967296), .int .u64 0, .int .u64 0, .int .u64 0]) ∧ Below w.heap.size w w' := by
  go_enter Tryd.func66, Tryd.ntmps66
  go_wp2_with fail
  simp [bodyPost, results, Tryd.results66, go_sem]
  try refine ⟨by assumption, ?_⟩
  repeat' (first | with_reducible exact Below.refl _ _ | with_reducible refine drew_ok ?_ _ | with_reducible refine set_ok ?_ ?_ _ | with_reducible refine below_alloc ?_ _)
  all_goals first | omega | trace_state
def chanceryref17_big.f (n : Int) : Option (Bool × Int × Int × Int × Int × Int) := if -9223372036854775808 ≤ n ∧ n < 9223372036854775808 then some (decide (n < 0), d0 n.natAbs, d1 n.natAbs, d2 n.natAbs, d3 n.natAbs, d4 n.natAbs) else none
set_option maxRecDepth 100000 in
set_option maxHeartbeats 1000000 in
theorem chanceryref17_big.calls (n : Int) (r0 : Bool) (r1 r2 r3 r4 r5 : Int) (w : World) (h : chanceryref17_big.f n = some (r0, r1, r2, r3, r4, r5)) :
    Calls Tryd.prog 66 #[.int .i64 n] w fun e w' => e = .returned (.agg #[.bool r0, .int .u64 r1, .int .u64 r2, .int .u64 r3, .int .u64 r4, .int .u64 r5]) ∧ Below w.heap.size w w' := by
  unfold chanceryref17_big.f at h
  by_cases hc : -9223372036854775808 ≤ n ∧ n < 9223372036854775808
  case neg => rw [if_neg hc] at h; cases h
  rw [if_pos hc] at h
  injection h with h
  simp only [Prod.mk.injEq] at h
  obtain ⟨q0, q1, q2, q3, q4, q5⟩ := h
  unfold d0 at q1
  unfold d1 at q2
  unfold d2 at q3
  unfold d3 at q4
  unfold d4 at q5
  by_cases hn : n < 0
  · obtain ⟨m, hm⟩ : ∃ m : Int, (n.natAbs : Int) = m := ⟨_, rfl⟩
    rw [hm] at q1 q2 q3 q4 q5
    have q3' : r3 = 0 := by omega
    have q4' : r4 = 0 := by omega
    have q5' : r5 = 0 := by omega
    have q2' : m / 4294967296 = r2 := by omega
    rw [decide_eq_true hn] at q0
    subst q0 q1 q2' q3' q4' q5'
    exact big_neg n m w hn hc.1 (by simp only [IntKind.wrap_u64]; omega) (by omega) (by omega)
  · have hm : (n.natAbs : Int) = n := by omega
    rw [hm] at q1 q2 q3 q4 q5
    have q3' : r3 = 0 := by omega
    have q4' : r4 = 0 := by omega
    have q5' : r5 = 0 := by omega
    have q2' : n / 4294967296 = r2 := by omega
    rw [decide_eq_false hn] at q0
    subst q0 q1 q2' q3' q4' q5'
    exact big_pos n w (by omega) hc.2
theorem eq5 (d : Nat) (w : World) (a0 b0 a1 b1 a2 b2 a3 b3 a4 b4 : Int) :
    (Op.equalIn (d + 2) 54 (.agg #[.int .u64 a0, .int .u64 a1, .int .u64 a2, .int .u64 a3, .int .u64 a4]) (.agg #[.int .u64 b0, .int .u64 b1, .int .u64 b2, .int .u64 b3, .int .u64 b4])).run Tryd.prog w = .ok (a0 == b0 && (a1 == b1 && (a2 == b2 && (a3 == b3 && a4 == b4)))) w := by
  have hu : Tryd.prog.underlying 54 = some (.array 5 47) := by kernel_rfl
  have hs : ∀ w, (sizeOf 47).run Tryd.prog w = .ok 1 w := by intro w; go_simp
  have hp : ∀ (i : Nat) (xs : Array Value) (v : Value) (w : World), xs[i]? = some v → (part 47 xs i).run Tryd.prog w = .ok v w := by
    intro i xs v w h; go_simp
  have he : ∀ (x y : Int) w, (Op.equalIn (d + 1) 47 (.int .u64 x) (.int .u64 y)).run Tryd.prog w = .ok (x == y) w := fun x y w => run_equalIn_int w d 47 .u64 .u64 x y (by kernel_rfl)
  rw [Op.equalIn]
  simp only [Sem.run_bind, run_underlying hu, Result.andThen_ok, hs]
  simp [List.range'_succ]
  rw [hp 0 _ (.int .u64 a0) _ rfl, Result.andThen_ok, hp 0 _ (.int .u64 b0) _ rfl, Result.andThen_ok, he, Result.andThen_ok]
  cases (a0 == b0) with
  | false => rfl
  | true =>
  simp only [Bool.true_and, reduceCtorEq, if_false]
  rw [hp 1 _ (.int .u64 a1) _ rfl, Result.andThen_ok, hp 1 _ (.int .u64 b1) _ rfl, Result.andThen_ok, he, Result.andThen_ok]
  cases (a1 == b1) with
  | false => rfl
  | true =>
  simp only [Bool.true_and, reduceCtorEq, if_false]
  rw [hp 2 _ (.int .u64 a2) _ rfl, Result.andThen_ok, hp 2 _ (.int .u64 b2) _ rfl, Result.andThen_ok, he, Result.andThen_ok]
  cases (a2 == b2) with
  | false => rfl
  | true =>
  simp only [Bool.true_and, reduceCtorEq, if_false]
  rw [hp 3 _ (.int .u64 a3) _ rfl, Result.andThen_ok, hp 3 _ (.int .u64 b3) _ rfl, Result.andThen_ok, he, Result.andThen_ok]
  cases (a3 == b3) with
  | false => rfl
  | true =>
  simp only [Bool.true_and, reduceCtorEq, if_false]
  rw [hp 4 _ (.int .u64 a4) _ rfl, Result.andThen_ok, hp 4 _ (.int .u64 b4) _ rfl, Result.andThen_ok, he, Result.andThen_ok]
  cases (a4 == b4) <;> rfl
attribute [local go_sem high] eq5
set_option maxRecDepth 100000 in
set_option maxHeartbeats 1000000 in
theorem told_h2 (a0 a1 a2 a3 a4 : Int) (s : Bool) (w : World) (h2 : ¬ a2 = 0) :
    Calls Tryd.prog 87 #[.agg #[.bool s, .int .u64 a0, .int .u64 a1, .int .u64 a2, .int .u64 a3, .int .u64 a4]] w fun e w' => e = .returned (.tuple #[.int .i64 0, .bool false]) ∧ Below w.heap.size w w' := by
  go_enter Tryd.func87, Tryd.ntmps87
  go_wp2_with fail
  simp [bodyPost, results, Tryd.results87, go_sem]
  try refine ⟨by assumption, ?_⟩
  repeat' (first | with_reducible exact Below.refl _ _ | with_reducible refine drew_ok ?_ _ | with_reducible refine set_ok ?_ ?_ _ | with_reducible refine below_alloc ?_ _)
  all_goals first | omega | trace_state
set_option maxRecDepth 100000 in
set_option maxHeartbeats 1000000 in
theorem told_h3 (a0 a1 a3 a4 : Int) (s : Bool) (w : World) (h3 : ¬ a3 = 0) :
    Calls Tryd.prog 87 #[.agg #[.bool s, .int .u64 a0, .int .u64 a1, .int .u64 0, .int .u64 a3, .int .u64 a4]] w fun e w' => e = .returned (.tuple #[.int .i64 0, .bool false]) ∧ Below w.heap.size w w' := by
  go_enter Tryd.func87, Tryd.ntmps87
  go_wp2_with fail
  simp [bodyPost, results, Tryd.results87, go_sem]
  try refine ⟨by assumption, ?_⟩
  repeat' (first | with_reducible exact Below.refl _ _ | with_reducible refine drew_ok ?_ _ | with_reducible refine set_ok ?_ ?_ _ | with_reducible refine below_alloc ?_ _)
  all_goals first | omega | trace_state
set_option maxRecDepth 100000 in
set_option maxHeartbeats 1000000 in
theorem told_h4 (a0 a1 a4 : Int) (s : Bool) (w : World) (h4 : ¬ a4 = 0) :
    Calls Tryd.prog 87 #[.agg #[.bool s, .int .u64 a0, .int .u64 a1, .int .u64 0, .int .u64 0, .int .u64 a4]] w fun e w' => e = .returned (.tuple #[.int .i64 0, .bool false]) ∧ Below w.heap.size w w' := by
  go_enter Tryd.func87, Tryd.ntmps87
  go_wp2_with fail
  simp [bodyPost, results, Tryd.results87, go_sem]
  try refine ⟨by assumption, ?_⟩
  repeat' (first | with_reducible exact Below.refl _ _ | with_reducible refine drew_ok ?_ _ | with_reducible refine set_ok ?_ ?_ _ | with_reducible refine below_alloc ?_ _)
  all_goals first | omega | trace_state
set_option maxRecDepth 100000 in
set_option maxHeartbeats 1000000 in
theorem told_n (a0 a1 m : Int) (w : World) (l0 : 0 ≤ a0) (u0 : a0 < 4294967296) (l1 : 0 ≤ a1) (u1 : a1 < 4294967296) (hm : a1 * 4294967296 + a0 = m) (lm : 0 ≤ m) (um : m < 9223372036854775808) :
    Calls Tryd.prog 87 #[.agg #[.bool true, .int .u64 a0, .int .u64 a1, .int .u64 0, .int .u64 0, .int .u64 0]] w fun e w' => e = .returned (.tuple #[.int .i64 (-m), .bool true]) ∧ Below w.heap.size w w' := by
  go_enter Tryd.func87, Tryd.ntmps87
  go_wp2_with fail
  simp [bodyPost, results, Tryd.results87, go_sem]
  try refine ⟨by assumption, ?_⟩
  repeat' (first | with_reducible exact Below.refl _ _ | with_reducible refine drew_ok ?_ _ | with_reducible refine set_ok ?_ ?_ _ | with_reducible refine below_alloc ?_ _)
  all_goals first | omega | trace_state
set_option maxRecDepth 100000 in
set_option maxHeartbeats 1000000 in
theorem told_p (a0 a1 m : Int) (w : World) (l0 : 0 ≤ a0) (u0 : a0 < 4294967296) (l1 : 0 ≤ a1) (u1 : a1 < 4294967296) (hm : a1 * 4294967296 + a0 = m) (lm : 0 ≤ m) (um : m < 9223372036854775808) :
    Calls Tryd.prog 87 #[.agg #[.bool false, .int .u64 a0, .int .u64 a1, .int .u64 0, .int .u64 0, .int .u64 0]] w fun e w' => e = .returned (.tuple #[.int .i64 m, .bool true]) ∧ Below w.heap.size w w' := by
  go_enter Tryd.func87, Tryd.ntmps87
  go_wp2_with fail
  simp [bodyPost, results, Tryd.results87, go_sem]
  try refine ⟨by assumption, ?_⟩
  repeat' (first | with_reducible exact Below.refl _ _ | with_reducible refine drew_ok ?_ _ | with_reducible refine set_ok ?_ ?_ _ | with_reducible refine below_alloc ?_ _)
  all_goals first | omega | trace_state
set_option maxRecDepth 100000 in
set_option maxHeartbeats 1000000 in
theorem told_e (a0 a1 m : Int) (w : World) (l0 : 0 ≤ a0) (u0 : a0 < 4294967296) (l1 : 0 ≤ a1) (u1 : a1 < 4294967296) (hm : a1 * 4294967296 + a0 = m) (lm : 0 ≤ m) (um : ¬ m < 9223372036854775808) (em : m = 9223372036854775808) :
    Calls Tryd.prog 87 #[.agg #[.bool true, .int .u64 a0, .int .u64 a1, .int .u64 0, .int .u64 0, .int .u64 0]] w fun e w' => e = .returned (.tuple #[.int .i64 (-9223372036854775808), .bool true]) ∧ Below w.heap.size w w' := by
  go_enter Tryd.func87, Tryd.ntmps87
  go_wp2_with fail
  simp [bodyPost, results, Tryd.results87, go_sem]
  try refine ⟨by assumption, ?_⟩
  repeat' (first | with_reducible exact Below.refl _ _ | with_reducible refine drew_ok ?_ _ | with_reducible refine set_ok ?_ ?_ _ | with_reducible refine below_alloc ?_ _)
  all_goals first | omega | trace_state
set_option maxRecDepth 100000 in
set_option maxHeartbeats 1000000 in
theorem told_f2 (a0 a1 m : Int) (w : World) (l0 : 0 ≤ a0) (u0 : a0 < 4294967296) (l1 : 0 ≤ a1) (u1 : a1 < 4294967296) (hm : a1 * 4294967296 + a0 = m) (lm : 0 ≤ m) (um : ¬ m < 9223372036854775808) (em : m = 9223372036854775808) :
    Calls Tryd.prog 87 #[.agg #[.bool false, .int .u64 a0, .int .u64 a1, .int .u64 0, .int .u64 0, .int .u64 0]] w fun e w' => e = .returned (.tuple #[.int .i64 0, .bool false]) ∧ Below w.heap.size w w' := by
  go_enter Tryd.func87, Tryd.ntmps87
  go_wp2_with fail
  simp [bodyPost, results, Tryd.results87, go_sem]
  try refine ⟨by assumption, ?_⟩
  repeat' (first | with_reducible exact Below.refl _ _ | with_reducible refine drew_ok ?_ _ | with_reducible refine set_ok ?_ ?_ _ | with_reducible refine below_alloc ?_ _)
  all_goals first | omega | trace_state
set_option maxRecDepth 100000 in
set_option maxHeartbeats 1000000 in
theorem told_f (a0 a1 m : Int) (w : World) (l0 : 0 ≤ a0) (u0 : a0 < 4294967296) (l1 : 0 ≤ a1) (u1 : a1 < 4294967296) (hm : a1 * 4294967296 + a0 = m) (lm : 0 ≤ m) (um : ¬ m < 9223372036854775808) (vm : m < 18446744073709551616) (em : ¬ m = 9223372036854775808) :
    Calls Tryd.prog 87 #[.agg #[.bool false, .int .u64 a0, .int .u64 a1, .int .u64 0, .int .u64 0, .int .u64 0]] w fun e w' => e = .returned (.tuple #[.int .i64 0, .bool false]) ∧ Below w.heap.size w w' := by
  go_enter Tryd.func87, Tryd.ntmps87
  go_wp2_with fail
  simp [bodyPost, results, Tryd.results87, go_sem]
  try refine ⟨by assumption, ?_⟩
  repeat' (first | with_reducible exact Below.refl _ _ | with_reducible refine drew_ok ?_ _ | with_reducible refine set_ok ?_ ?_ _ | with_reducible refine below_alloc ?_ _)
  all_goals first | omega | trace_state
set_option maxRecDepth 100000 in
set_option maxHeartbeats 1000000 in
theorem told_g (a0 a1 m : Int) (w : World) (l0 : 0 ≤ a0) (u0 : a0 < 4294967296) (l1 : 0 ≤ a1) (u1 : a1 < 4294967296) (hm : a1 * 4294967296 + a0 = m) (lm : 0 ≤ m) (um : ¬ m < 9223372036854775808) (vm : m < 18446744073709551616) (em : ¬ m = 9223372036854775808) :
    Calls Tryd.prog 87 #[.agg #[.bool true, .int .u64 a0, .int .u64 a1, .int .u64 0, .int .u64 0, .int .u64 0]] w fun e w' => e = .returned (.tuple #[.int .i64 0, .bool false]) ∧ Below w.heap.size w w' := by
  go_enter Tryd.func87, Tryd.ntmps87
  go_wp2_with fail
  simp [bodyPost, results, Tryd.results87, go_sem]
  try refine ⟨by assumption, ?_⟩
  repeat' (first | with_reducible exact Below.refl _ _ | with_reducible refine drew_ok ?_ _ | with_reducible refine set_ok ?_ ?_ _ | with_reducible refine below_alloc ?_ _)
  all_goals first | omega | trace_state
def chanceryref17_told.f (s : Bool) (a0 a1 a2 a3 a4 : Int) : Option (Int × Bool) :=
  if Digs a0 a1 a2 a3 a4 then some (if num a0 a1 a2 a3 a4 < 9223372036854775808 then (if s then -num a0 a1 a2 a3 a4 else num a0 a1 a2 a3 a4, true) else if num a0 a1 a2 a3 a4 = 9223372036854775808 ∧ s = true then (-9223372036854775808, true) else (0, false)) else none
set_option maxRecDepth 100000 in
set_option maxHeartbeats 1000000 in
theorem chanceryref17_told.calls (s : Bool) (a0 a1 a2 a3 a4 : Int) (r1 : Int) (r2 : Bool) (w : World) (h : chanceryref17_told.f s a0 a1 a2 a3 a4 = some (r1, r2)) :
    Calls Tryd.prog 87 #[.agg #[.bool s, .int .u64 a0, .int .u64 a1, .int .u64 a2, .int .u64 a3, .int .u64 a4]] w fun e w' => e = .returned (.tuple #[.int .i64 r1, .bool r2]) ∧ Below w.heap.size w w' := by
  unfold chanceryref17_told.f at h
  by_cases hc : Digs a0 a1 a2 a3 a4
  case neg => rw [if_neg hc] at h; cases h
  rw [if_pos hc] at h
  injection h with h
  obtain ⟨⟨la0, ua0⟩, ⟨la1, ua1⟩, ⟨la2, ua2⟩, ⟨la3, ua3⟩, la4, ua4⟩ := hc
  have big : (¬ a2 = 0 ∨ ¬ a3 = 0 ∨ ¬ a4 = 0) → r1 = 0 ∧ r2 = false := by
    intro hb
    have e : ¬ num a0 a1 a2 a3 a4 < 18446744073709551616 := by simp only [num]; omega
    rw [if_neg (by omega), if_neg (by omega)] at h
    injection h with h1 h2
    exact ⟨h1.symm, h2.symm⟩
  by_cases h2 : a2 = 0
  case neg => obtain ⟨rfl, rfl⟩ := big (.inl h2); exact told_h2 a0 a1 a2 a3 a4 s w h2
  by_cases h3 : a3 = 0
  case neg => obtain ⟨rfl, rfl⟩ := big (.inr (.inl h3)); subst h2; exact told_h3 a0 a1 a3 a4 s w h3
  by_cases h4 : a4 = 0
  case neg => obtain ⟨rfl, rfl⟩ := big (.inr (.inr h4)); subst h2 h3; exact told_h4 a0 a1 a4 s w h4
  clear big
  subst h2 h3 h4
  obtain ⟨m, hm⟩ : ∃ m, a1 * 4294967296 + a0 = m := ⟨_, rfl⟩
  have hn : num a0 a1 0 0 0 = m := by simp only [num]; omega
  rw [hn] at h
  have lm : 0 ≤ m := by omega
  have vm : m < 18446744073709551616 := by omega
  by_cases um : m < 9223372036854775808
  · rw [if_pos um] at h
    injection h with h1 h2
    subst h1 h2
    cases s
    · exact told_p a0 a1 m w la0 ua0 la1 ua1 hm lm um
    · exact told_n a0 a1 m w la0 ua0 la1 ua1 hm lm um
  · rw [if_neg um] at h
    by_cases em : m = 9223372036854775808
    · cases s
      · rw [if_neg (by simp)] at h
        injection h with h1 h2
        subst h1 h2
        exact told_f2 a0 a1 m w la0 ua0 la1 ua1 hm lm um em
      · rw [if_pos ⟨em, rfl⟩] at h
        injection h with h1 h2
        subst h1 h2
        exact told_e a0 a1 m w la0 ua0 la1 ua1 hm lm um em
    · rw [if_neg (by simp [em])] at h
      injection h with h1 h2
      subst h1 h2
      cases s
      · exact told_f a0 a1 m w la0 ua0 la1 ua1 hm lm um vm em
      · exact told_g a0 a1 m w la0 ua0 la1 ua1 hm lm um vm em
end Go.Proofs.YtbodlnoipkommaaDoor.Rc
namespace Go.Proofs.YtbodlnoipkommaaDoor.Q
open Go.Proofs.YtbodlnoipkommaaDoor.Rb Go.Proofs.YtbodlnoipkommaaDoor.Rc
open Go.RowKit Go.Proofs.YtbodlnoipkommaaDoorW.PrintWords Go.Proofs.YtbodlnoipkommaaDoorW.PrintLast Go.Proofs.YtbodlnoipkommaaDoorW.PrintMore
attribute [local go_sem] max2_int min2_int max_two min_two max_three min_three max_four min_four   -- for this text's walks alone
set_option linter.unusedVariables false
set_option linter.unusedSimpArgs false
end Go.Proofs.YtbodlnoipkommaaDoor.Q
namespace Go.Proofs.YtbodlnoipkommaaDoor.Q
open Go.Proofs.YtbodlnoipkommaaDoor.Rc Go.Proofs.YtbodlnoipkommaaDoor.Rd
open Go.RowKit Go.Proofs.YtbodlnoipkommaaDoorW.PrintWords Go.Proofs.YtbodlnoipkommaaDoorW.PrintLast Go.Proofs.YtbodlnoipkommaaDoorW.PrintMore
attribute [local go_sem] max2_int min2_int max_two min_two max_three min_three max_four min_four   -- for this text's walks alone
set_option linter.unusedVariables false
set_option linter.unusedSimpArgs false
def chanceryref17_fixed.f (a0_0 : Int) (a0_1 : Int) (a0_2 : ByteArray) : Option (Bool × Int × Int × Int × Int × Int) := if a0_0 = 2 then ((chanceryref17_big.f a0_1).bind fun bt279 => ((chanceryref17_big.f 10000).bind fun bt285 => ((chanceryref17_times.f bt279.1 bt279.2.1 bt279.2.2.1 bt279.2.2.2.1 bt279.2.2.2.2.1 bt279.2.2.2.2.2 bt285.1 bt285.2.1 bt285.2.2.1 bt285.2.2.2.1 bt285.2.2.2.2.1 bt285.2.2.2.2.2).bind fun bt291 => (some (bt291.1, bt291.2.1, bt291.2.2.1, bt291.2.2.2.1, bt291.2.2.2.2.1, bt291.2.2.2.2.2))))) else ((chanceryref17_big.f a0_1).bind fun bt297 => (some (bt297.1, bt297.2.1, bt297.2.2.1, bt297.2.2.2.1, bt297.2.2.2.2.1, bt297.2.2.2.2.2)))
set_option maxHeartbeats 8000000 in
set_option maxRecDepth 100000 in
theorem chanceryref17_fixed.calls (a0_0 : Int) (a0_1 : Int) (a0_2 : ByteArray) (r1 : Bool) (r2 : Int) (r3 : Int) (r4 : Int) (r5 : Int) (r6 : Int) (w : World) (h : chanceryref17_fixed.f a0_0 a0_1 a0_2 = some (r1, r2, r3, r4, r5, r6)) :
    Calls Tryd.prog 44 #[.agg #[.int .u8 a0_0, .int .i64 a0_1, .string a0_2]] w fun e w' => e = .returned (.agg #[.bool r1, .int .u64 r2, .int .u64 r3, .int .u64 r4, .int .u64 r5, .int .u64 r6]) ∧ Below w.heap.size w w' := by
  have hu25 := Tryd.underlying25
  have hu56 := Tryd.underlying56
  have HB := Aside0.mk (Below.refl w.heap.size w)
  have H : (if a0_0 = 2 then ((chanceryref17_big.f a0_1).bind fun bt279 => ((chanceryref17_big.f 10000).bind fun bt285 => ((chanceryref17_times.f bt279.1 bt279.2.1 bt279.2.2.1 bt279.2.2.2.1 bt279.2.2.2.2.1 bt279.2.2.2.2.2 bt285.1 bt285.2.1 bt285.2.2.1 bt285.2.2.2.1 bt285.2.2.2.2.1 bt285.2.2.2.2.2).bind fun bt291 => (some (bt291.1, bt291.2.1, bt291.2.2.1, bt291.2.2.2.1, bt291.2.2.2.2.1, bt291.2.2.2.2.2))))) else ((chanceryref17_big.f a0_1).bind fun bt297 => (some (bt297.1, bt297.2.1, bt297.2.2.1, bt297.2.2.2.1, bt297.2.2.2.2.1, bt297.2.2.2.2.2)))) = some (r1, r2, r3, r4, r5, r6) := h
  clear h
  by_cases c2 : a0_0 = 2
  · rw [if_pos c2] at H
    have c2b0 : (a0_0 == 2) = true := beq_iff_eq.mpr c2
    have c2b1 : (a0_0 != 2) = false := bne_eq_false_iff_eq.mpr c2
    clear c2
    replace H := Option.bind_eq_some_iff.mp H
    obtain ⟨⟨t279, t280, t281, t282, t283, t284⟩, A30, H⟩ := H
    replace H : ((chanceryref17_big.f 10000).bind fun bt285 => ((chanceryref17_times.f t279 t280 t281 t282 t283 t284 bt285.1 bt285.2.1 bt285.2.2.1 bt285.2.2.2.1 bt285.2.2.2.2.1 bt285.2.2.2.2.2).bind fun bt291 => (some (bt291.1, bt291.2.1, bt291.2.2.1, bt291.2.2.2.1, bt291.2.2.2.2.1, bt291.2.2.2.2.2)))) = some (r1, r2, r3, r4, r5, r6) := H
    have A3 := Aside0.mk A30
    clear A30
    replace H := Option.bind_eq_some_iff.mp H
    obtain ⟨⟨t285, t286, t287, t288, t289, t290⟩, A40, H⟩ := H
    replace H : ((chanceryref17_times.f t279 t280 t281 t282 t283 t284 t285 t286 t287 t288 t289 t290).bind fun bt291 => (some (bt291.1, bt291.2.1, bt291.2.2.1, bt291.2.2.2.1, bt291.2.2.2.2.1, bt291.2.2.2.2.2))) = some (r1, r2, r3, r4, r5, r6) := H
    have A4 := Aside0.mk A40
    clear A40
    replace H := Option.bind_eq_some_iff.mp H
    obtain ⟨⟨t291, t292, t293, t294, t295, t296⟩, A50, H⟩ := H
    replace H : (some (t291, t292, t293, t294, t295, t296)) = some (r1, r2, r3, r4, r5, r6) := H
    have A5 := Aside0.mk A50
    clear A50
    simp only [Option.some.injEq, Prod.mk.injEq] at H
    obtain ⟨rfl, rfl, rfl, rfl, rfl, rfl⟩ := H
    go_enter Tryd.func44, Tryd.ntmps44
    go_wp2_with (first | ((with_reducible refine gate_dst (N := 1) rfl ?_); refine box_event ?hg (N := 1) ?hd (cs := #[.int .u8 a0_0, .int .i64 a0_1, .string a0_2]) (t := 25) ?hr ?_; (case hd => rfl); (case hg => rfl); (case hr => first | (go_simp; done) | (go_simp; rfl)); intro gb277 hg w6 hbox hb; have n0_ := Aside0.mk (below_step (by repeat (first | (with_reducible first | exact HB.out | apply below_alloc | apply pw_below_drewN | apply below_drew1) | exact HB.out)) hb); have n1_ := Aside0.mk (hbox); have n2_ := Aside0.mk ((by rw [hg]; exact (below_size (by repeat (first | (with_reducible first | exact HB.out | apply below_alloc | apply pw_below_drewN | apply below_drew1) | exact HB.out))) : w.heap.size ≤ gb277)); have n3_ := Aside0.mk ((by rw [hg]; exact (below_size (by repeat (first | (with_reducible first | exact HB.out | apply below_alloc | apply pw_below_drewN | apply below_drew1) | exact HB.out))) : w.heap.size ≤ gb277)); clear HB; have HB := n0_; have BK277 := n1_; have GW277 := n2_; have GE277 := n3_; clear n0_ n1_ n2_ n3_; clear hb hbox hg) | ((with_reducible refine gate_dst (N := 2) rfl ?_); refine box_event ?hg (N := 2) ?hd (cs := #[.bool false, .int .u64 0, .int .u64 0, .int .u64 0, .int .u64 0, .int .u64 0]) (t := 56) ?hr ?_; (case hd => rfl); (case hg => rfl); (case hr => first | (go_simp; done) | (go_simp; rfl)); intro gb278 hg w7 hbox hb; have n0_ := Aside0.mk (blk_below (g := gb277) (o := .cells #[.int .u8 a0_0, .int .i64 a0_1, .string a0_2] 25 (0, 0)) (by (with_reducible repeat (first | refine blk_drewN ?_ _ | refine blk_drew ?_ | refine blk_alloc ?_ _)); exact BK277.out) hb); have n1_ := Aside0.mk (below_step (by repeat (first | (with_reducible first | exact HB.out | apply below_alloc | apply pw_below_drewN | apply below_drew1 | refine below_set ?_ GE277.out) | exact HB.out)) hb); have n2_ := Aside0.mk (hbox); have n3_ := Aside0.mk ((by rw [hg]; exact (below_size (by repeat (first | (with_reducible first | exact HB.out | apply below_alloc | apply pw_below_drewN | apply below_drew1 | refine below_set ?_ GE277.out) | exact HB.out))) : w.heap.size ≤ gb278)); have n4_ := Aside0.mk ((by rw [hg]; exact (below_size (by repeat (first | (with_reducible first | exact HB.out | apply below_alloc | apply pw_below_drewN | apply below_drew1 | refine below_set ?_ GE277.out) | exact HB.out))) : w.heap.size ≤ gb278)); have n5_ := Aside0.mk ((by rw [hg]; exact Nat.ne_of_lt (blk_lt (g := gb277) (o := .cells #[.int .u8 a0_0, .int .i64 a0_1, .string a0_2] 25 (0, 0)) (by (with_reducible repeat (first | refine blk_drewN ?_ _ | refine blk_drew ?_ | refine blk_alloc ?_ _)); exact BK277.out)) : gb277 ≠ gb278)); have n6_ := Aside0.mk ((by rw [hg]; exact Nat.ne_of_gt (blk_lt (g := gb277) (o := .cells #[.int .u8 a0_0, .int .i64 a0_1, .string a0_2] 25 (0, 0)) (by (with_reducible repeat (first | refine blk_drewN ?_ _ | refine blk_drew ?_ | refine blk_alloc ?_ _)); exact BK277.out)) : gb278 ≠ gb277)); clear BK277; clear HB; have BK277 := n0_; have HB := n1_; have BK278 := n2_; have GW278 := n3_; have GE278 := n4_; have NB277_278 := n5_; have NB278_277 := n6_; clear n0_ n1_ n2_ n3_ n4_ n5_ n6_; clear hb hbox hg; have hnb8 := NB277_278.out; have hnc8 := NB278_277.out; have hcz9_0 : w7.cell? ⟨gb277, 0, none⟩ = some (.int .u8 a0_0) := (blk_cell BK277.out 0).trans rfl; have hcz9_1 : w7.cell? ⟨gb277, 1, none⟩ = some (.int .i64 a0_1) := (blk_cell BK277.out 1).trans rfl; have hcz9_2 : w7.cell? ⟨gb277, 2, none⟩ = some (.string a0_2) := (blk_cell BK277.out 2).trans rfl; have hfz9_0 := blk_frozen BK277.out 0; have hfz9_1 := blk_frozen BK277.out 1; have hfz9_2 := blk_frozen BK277.out 2) | ((with_reducible refine gate_callee (f := 66) rfl ?_); refine goesL_ (some 8) rfl rfl Tryd.func66 (by kernel_rfl) rfl #[.int .i64 a0_1] rfl (by (try simp only [List.map_toArray, List.map_cons, List.map_nil]); first | done | rfl | (simp only [List.length_drop, List.length_take]; rfl)) ?_; (with_reducible refine (chanceryref17_big.calls a0_1 t279 t280 t281 t282 t283 t284 _ A3.out).mono ?_); rintro e w10 ⟨rfl, hb⟩; refine ⟨_, rfl, ?_⟩; have n0_ := Aside0.mk (blk_below (g := gb277) (o := .cells #[.int .u8 a0_0, .int .i64 a0_1, .string a0_2] 25 (0, 0)) (by (with_reducible repeat (first | refine blk_drewN ?_ _ | refine blk_drew ?_ | refine blk_alloc ?_ _)); exact BK277.out) hb); have n1_ := Aside0.mk (blk_below (g := gb278) (o := .cells #[.bool false, .int .u64 0, .int .u64 0, .int .u64 0, .int .u64 0, .int .u64 0] 56 (0, 0)) (by (with_reducible repeat (first | refine blk_drewN ?_ _ | refine blk_drew ?_ | refine blk_alloc ?_ _)); exact BK278.out) hb); have n2_ := Aside0.mk (below_step (by repeat (first | (with_reducible first | exact HB.out | apply below_alloc | apply pw_below_drewN | apply below_drew1 | refine below_set ?_ GE277.out | refine below_set ?_ GE278.out) | exact HB.out)) hb); clear BK277; clear BK278; clear HB; have BK277 := n0_; have BK278 := n1_; have HB := n2_; clear n0_ n1_ n2_; (try clear hb); (try clear hb2); (try clear hk); (try clear hi)) | ((with_reducible refine gate_callee (f := 66) rfl ?_); refine goesL_ (some 9) rfl rfl Tryd.func66 (by kernel_rfl) rfl #[.int .i64 10000] rfl (by (try simp only [List.map_toArray, List.map_cons, List.map_nil]); first | done | rfl | (simp only [List.length_drop, List.length_take]; rfl)) ?_; (with_reducible refine (chanceryref17_big.calls 10000 t285 t286 t287 t288 t289 t290 _ A4.out).mono ?_); rintro e w11 ⟨rfl, hb⟩; refine ⟨_, rfl, ?_⟩; have n0_ := Aside0.mk (blk_below (g := gb277) (o := .cells #[.int .u8 a0_0, .int .i64 a0_1, .string a0_2] 25 (0, 0)) (by (with_reducible repeat (first | refine blk_drewN ?_ _ | refine blk_drew ?_ | refine blk_alloc ?_ _)); exact BK277.out) hb); have n1_ := Aside0.mk (blk_below (g := gb278) (o := .cells #[.bool false, .int .u64 0, .int .u64 0, .int .u64 0, .int .u64 0, .int .u64 0] 56 (0, 0)) (by (with_reducible repeat (first | refine blk_drewN ?_ _ | refine blk_drew ?_ | refine blk_alloc ?_ _)); exact BK278.out) hb); have n2_ := Aside0.mk (below_step (by repeat (first | (with_reducible first | exact HB.out | apply below_alloc | apply pw_below_drewN | apply below_drew1 | refine below_set ?_ GE277.out | refine below_set ?_ GE278.out) | exact HB.out)) hb); clear BK277; clear BK278; clear HB; have BK277 := n0_; have BK278 := n1_; have HB := n2_; clear n0_ n1_ n2_; (try clear hb); (try clear hb2); (try clear hk); (try clear hi)) | ((with_reducible refine gate_callee (f := 67) rfl ?_); refine goesL_ (some 10) rfl rfl Tryd.func67 (by kernel_rfl) rfl #[.agg #[.bool t279, .int .u64 t280, .int .u64 t281, .int .u64 t282, .int .u64 t283, .int .u64 t284], .agg #[.bool t285, .int .u64 t286, .int .u64 t287, .int .u64 t288, .int .u64 t289, .int .u64 t290]] rfl (by (try simp only [List.map_toArray, List.map_cons, List.map_nil]); first | done | rfl | (simp only [List.length_drop, List.length_take]; rfl)) ?_; (with_reducible refine (chanceryref17_times.calls t279 t280 t281 t282 t283 t284 t285 t286 t287 t288 t289 t290 t291 t292 t293 t294 t295 t296 _ A5.out).mono ?_); rintro e w12 ⟨rfl, hb⟩; refine ⟨_, rfl, ?_⟩; have n0_ := Aside0.mk (blk_below (g := gb277) (o := .cells #[.int .u8 a0_0, .int .i64 a0_1, .string a0_2] 25 (0, 0)) (by (with_reducible repeat (first | refine blk_drewN ?_ _ | refine blk_drew ?_ | refine blk_alloc ?_ _)); exact BK277.out) hb); have n1_ := Aside0.mk (blk_below (g := gb278) (o := .cells #[.bool false, .int .u64 0, .int .u64 0, .int .u64 0, .int .u64 0, .int .u64 0] 56 (0, 0)) (by (with_reducible repeat (first | refine blk_drewN ?_ _ | refine blk_drew ?_ | refine blk_alloc ?_ _)); exact BK278.out) hb); have n2_ := Aside0.mk (below_step (by repeat (first | (with_reducible first | exact HB.out | apply below_alloc | apply pw_below_drewN | apply below_drew1 | refine below_set ?_ GE277.out | refine below_set ?_ GE278.out) | exact HB.out)) hb); clear BK277; clear BK278; clear HB; have BK277 := n0_; have BK278 := n1_; have HB := n2_; clear n0_ n1_ n2_; (try clear hb); (try clear hb2); (try clear hk); (try clear hi); have hcz13_0 : w12.cell? ⟨gb278, 0, none⟩ = some (.bool false) := (blk_cell BK278.out 0).trans rfl; have hcz13_1 : w12.cell? ⟨gb278, 1, none⟩ = some (.int .u64 0) := (blk_cell BK278.out 1).trans rfl; have hcz13_2 : w12.cell? ⟨gb278, 2, none⟩ = some (.int .u64 0) := (blk_cell BK278.out 2).trans rfl; have hcz13_3 : w12.cell? ⟨gb278, 3, none⟩ = some (.int .u64 0) := (blk_cell BK278.out 3).trans rfl; have hcz13_4 : w12.cell? ⟨gb278, 4, none⟩ = some (.int .u64 0) := (blk_cell BK278.out 4).trans rfl; have hcz13_5 : w12.cell? ⟨gb278, 5, none⟩ = some (.int .u64 0) := (blk_cell BK278.out 5).trans rfl; have hfz13_0 := blk_frozen BK278.out 0; have hfz13_1 := blk_frozen BK278.out 1; have hfz13_2 := blk_frozen BK278.out 2; have hfz13_3 := blk_frozen BK278.out 3; have hfz13_4 := blk_frozen BK278.out 4; have hfz13_5 := blk_frozen BK278.out 5))
    refine bodyPost_ret (results_cell_row rfl _ _ gb278 56 #[.bool t291, .int .u64 t292, .int .u64 t293, .int .u64 t294, .int .u64 t295, .int .u64 t296] (0, 0) _ rfl (by (with_reducible repeat (first | refine blk_drewN ?_ _ | refine blk_drew ?_ | refine blk_alloc ?_ _)); refine blk_put (cs := #[.bool t291, .int .u64 t292, .int .u64 t293, .int .u64 t294, .int .u64 t295, .int .u64 0]) ?_ 5 _ rfl; (with_reducible repeat (first | refine blk_drewN ?_ _ | refine blk_drew ?_ | refine blk_alloc ?_ _)); refine blk_put (cs := #[.bool t291, .int .u64 t292, .int .u64 t293, .int .u64 t294, .int .u64 0, .int .u64 0]) ?_ 4 _ rfl; (with_reducible repeat (first | refine blk_drewN ?_ _ | refine blk_drew ?_ | refine blk_alloc ?_ _)); refine blk_put (cs := #[.bool t291, .int .u64 t292, .int .u64 t293, .int .u64 0, .int .u64 0, .int .u64 0]) ?_ 3 _ rfl; (with_reducible repeat (first | refine blk_drewN ?_ _ | refine blk_drew ?_ | refine blk_alloc ?_ _)); refine blk_put (cs := #[.bool t291, .int .u64 t292, .int .u64 0, .int .u64 0, .int .u64 0, .int .u64 0]) ?_ 2 _ rfl; (with_reducible repeat (first | refine blk_drewN ?_ _ | refine blk_drew ?_ | refine blk_alloc ?_ _)); refine blk_put (cs := #[.bool t291, .int .u64 0, .int .u64 0, .int .u64 0, .int .u64 0, .int .u64 0]) ?_ 1 _ rfl; (with_reducible repeat (first | refine blk_drewN ?_ _ | refine blk_drew ?_ | refine blk_alloc ?_ _)); refine blk_put (cs := #[.bool false, .int .u64 0, .int .u64 0, .int .u64 0, .int .u64 0, .int .u64 0]) ?_ 0 _ rfl; (with_reducible repeat (first | refine blk_drewN ?_ _ | refine blk_drew ?_ | refine blk_alloc ?_ _)); exact BK278.out) Tryd.underlying56 rfl (by kernel_rfl)) rfl ?_
    exact ⟨by first | rfl | (simp [errW_none, errW_some] <;> rfl) | (simp [*, errW_none, errW_some] <;> rfl), by repeat (first | (with_reducible first | exact HB.out | apply below_alloc | apply pw_below_drewN | apply below_drew1 | refine below_set ?_ GE277.out | refine below_set ?_ GE278.out) | exact HB.out)⟩
  · rw [if_neg c2] at H
    have c2b0 : (a0_0 == 2) = false := beq_eq_false_iff_ne.mpr c2
    have c2b1 : (a0_0 != 2) = true := bne_iff_ne.mpr c2
    replace H := Option.bind_eq_some_iff.mp H
    obtain ⟨⟨t297, t298, t299, t300, t301, t302⟩, A140, H⟩ := H
    replace H : (some (t297, t298, t299, t300, t301, t302)) = some (r1, r2, r3, r4, r5, r6) := H
    have A14 := Aside0.mk A140
    clear A140
    simp only [Option.some.injEq, Prod.mk.injEq] at H
    obtain ⟨rfl, rfl, rfl, rfl, rfl, rfl⟩ := H
    go_enter Tryd.func44, Tryd.ntmps44
    go_wp2_with (first | ((with_reducible refine gate_dst (N := 1) rfl ?_); refine box_event ?hg (N := 1) ?hd (cs := #[.int .u8 a0_0, .int .i64 a0_1, .string a0_2]) (t := 25) ?hr ?_; (case hd => rfl); (case hg => rfl); (case hr => first | (go_simp; done) | (go_simp; rfl)); intro gb277 hg w15 hbox hb; have n0_ := Aside0.mk (below_step (by repeat (first | (with_reducible first | exact HB.out | apply below_alloc | apply pw_below_drewN | apply below_drew1) | exact HB.out)) hb); have n1_ := Aside0.mk (hbox); have n2_ := Aside0.mk ((by rw [hg]; exact (below_size (by repeat (first | (with_reducible first | exact HB.out | apply below_alloc | apply pw_below_drewN | apply below_drew1) | exact HB.out))) : w.heap.size ≤ gb277)); have n3_ := Aside0.mk ((by rw [hg]; exact (below_size (by repeat (first | (with_reducible first | exact HB.out | apply below_alloc | apply pw_below_drewN | apply below_drew1) | exact HB.out))) : w.heap.size ≤ gb277)); clear HB; have HB := n0_; have BK277 := n1_; have GW277 := n2_; have GE277 := n3_; clear n0_ n1_ n2_ n3_; clear hb hbox hg) | ((with_reducible refine gate_dst (N := 2) rfl ?_); refine box_event ?hg (N := 2) ?hd (cs := #[.bool false, .int .u64 0, .int .u64 0, .int .u64 0, .int .u64 0, .int .u64 0]) (t := 56) ?hr ?_; (case hd => rfl); (case hg => rfl); (case hr => first | (go_simp; done) | (go_simp; rfl)); intro gb278 hg w16 hbox hb; have n0_ := Aside0.mk (blk_below (g := gb277) (o := .cells #[.int .u8 a0_0, .int .i64 a0_1, .string a0_2] 25 (0, 0)) (by (with_reducible repeat (first | refine blk_drewN ?_ _ | refine blk_drew ?_ | refine blk_alloc ?_ _)); exact BK277.out) hb); have n1_ := Aside0.mk (below_step (by repeat (first | (with_reducible first | exact HB.out | apply below_alloc | apply pw_below_drewN | apply below_drew1 | refine below_set ?_ GE277.out) | exact HB.out)) hb); have n2_ := Aside0.mk (hbox); have n3_ := Aside0.mk ((by rw [hg]; exact (below_size (by repeat (first | (with_reducible first | exact HB.out | apply below_alloc | apply pw_below_drewN | apply below_drew1 | refine below_set ?_ GE277.out) | exact HB.out))) : w.heap.size ≤ gb278)); have n4_ := Aside0.mk ((by rw [hg]; exact (below_size (by repeat (first | (with_reducible first | exact HB.out | apply below_alloc | apply pw_below_drewN | apply below_drew1 | refine below_set ?_ GE277.out) | exact HB.out))) : w.heap.size ≤ gb278)); have n5_ := Aside0.mk ((by rw [hg]; exact Nat.ne_of_lt (blk_lt (g := gb277) (o := .cells #[.int .u8 a0_0, .int .i64 a0_1, .string a0_2] 25 (0, 0)) (by (with_reducible repeat (first | refine blk_drewN ?_ _ | refine blk_drew ?_ | refine blk_alloc ?_ _)); exact BK277.out)) : gb277 ≠ gb278)); have n6_ := Aside0.mk ((by rw [hg]; exact Nat.ne_of_gt (blk_lt (g := gb277) (o := .cells #[.int .u8 a0_0, .int .i64 a0_1, .string a0_2] 25 (0, 0)) (by (with_reducible repeat (first | refine blk_drewN ?_ _ | refine blk_drew ?_ | refine blk_alloc ?_ _)); exact BK277.out)) : gb278 ≠ gb277)); clear BK277; clear HB; have BK277 := n0_; have HB := n1_; have BK278 := n2_; have GW278 := n3_; have GE278 := n4_; have NB277_278 := n5_; have NB278_277 := n6_; clear n0_ n1_ n2_ n3_ n4_ n5_ n6_; clear hb hbox hg; have hnb17 := NB277_278.out; have hnc17 := NB278_277.out; have hcz18_0 : w16.cell? ⟨gb277, 0, none⟩ = some (.int .u8 a0_0) := (blk_cell BK277.out 0).trans rfl; have hcz18_1 : w16.cell? ⟨gb277, 1, none⟩ = some (.int .i64 a0_1) := (blk_cell BK277.out 1).trans rfl; have hcz18_2 : w16.cell? ⟨gb277, 2, none⟩ = some (.string a0_2) := (blk_cell BK277.out 2).trans rfl; have hfz18_0 := blk_frozen BK277.out 0; have hfz18_1 := blk_frozen BK277.out 1; have hfz18_2 := blk_frozen BK277.out 2) | ((with_reducible refine gate_callee (f := 66) rfl ?_); refine goesL_ (some 13) rfl rfl Tryd.func66 (by kernel_rfl) rfl #[.int .i64 a0_1] rfl (by (try simp only [List.map_toArray, List.map_cons, List.map_nil]); first | done | rfl | (simp only [List.length_drop, List.length_take]; rfl)) ?_; (with_reducible refine (chanceryref17_big.calls a0_1 t297 t298 t299 t300 t301 t302 _ A14.out).mono ?_); rintro e w19 ⟨rfl, hb⟩; refine ⟨_, rfl, ?_⟩; have n0_ := Aside0.mk (blk_below (g := gb277) (o := .cells #[.int .u8 a0_0, .int .i64 a0_1, .string a0_2] 25 (0, 0)) (by (with_reducible repeat (first | refine blk_drewN ?_ _ | refine blk_drew ?_ | refine blk_alloc ?_ _)); exact BK277.out) hb); have n1_ := Aside0.mk (blk_below (g := gb278) (o := .cells #[.bool false, .int .u64 0, .int .u64 0, .int .u64 0, .int .u64 0, .int .u64 0] 56 (0, 0)) (by (with_reducible repeat (first | refine blk_drewN ?_ _ | refine blk_drew ?_ | refine blk_alloc ?_ _)); exact BK278.out) hb); have n2_ := Aside0.mk (below_step (by repeat (first | (with_reducible first | exact HB.out | apply below_alloc | apply pw_below_drewN | apply below_drew1 | refine below_set ?_ GE277.out | refine below_set ?_ GE278.out) | exact HB.out)) hb); clear BK277; clear BK278; clear HB; have BK277 := n0_; have BK278 := n1_; have HB := n2_; clear n0_ n1_ n2_; (try clear hb); (try clear hb2); (try clear hk); (try clear hi); have hcz20_0 : w19.cell? ⟨gb278, 0, none⟩ = some (.bool false) := (blk_cell BK278.out 0).trans rfl; have hcz20_1 : w19.cell? ⟨gb278, 1, none⟩ = some (.int .u64 0) := (blk_cell BK278.out 1).trans rfl; have hcz20_2 : w19.cell? ⟨gb278, 2, none⟩ = some (.int .u64 0) := (blk_cell BK278.out 2).trans rfl; have hcz20_3 : w19.cell? ⟨gb278, 3, none⟩ = some (.int .u64 0) := (blk_cell BK278.out 3).trans rfl; have hcz20_4 : w19.cell? ⟨gb278, 4, none⟩ = some (.int .u64 0) := (blk_cell BK278.out 4).trans rfl; have hcz20_5 : w19.cell? ⟨gb278, 5, none⟩ = some (.int .u64 0) := (blk_cell BK278.out 5).trans rfl; have hfz20_0 := blk_frozen BK278.out 0; have hfz20_1 := blk_frozen BK278.out 1; have hfz20_2 := blk_frozen BK278.out 2; have hfz20_3 := blk_frozen BK278.out 3; have hfz20_4 := blk_frozen BK278.out 4; have hfz20_5 := blk_frozen BK278.out 5))
    refine bodyPost_ret (results_cell_row rfl _ _ gb278 56 #[.bool t297, .int .u64 t298, .int .u64 t299, .int .u64 t300, .int .u64 t301, .int .u64 t302] (0, 0) _ rfl (by (with_reducible repeat (first | refine blk_drewN ?_ _ | refine blk_drew ?_ | refine blk_alloc ?_ _)); refine blk_put (cs := #[.bool t297, .int .u64 t298, .int .u64 t299, .int .u64 t300, .int .u64 t301, .int .u64 0]) ?_ 5 _ rfl; (with_reducible repeat (first | refine blk_drewN ?_ _ | refine blk_drew ?_ | refine blk_alloc ?_ _)); refine blk_put (cs := #[.bool t297, .int .u64 t298, .int .u64 t299, .int .u64 t300, .int .u64 0, .int .u64 0]) ?_ 4 _ rfl; (with_reducible repeat (first | refine blk_drewN ?_ _ | refine blk_drew ?_ | refine blk_alloc ?_ _)); refine blk_put (cs := #[.bool t297, .int .u64 t298, .int .u64 t299, .int .u64 0, .int .u64 0, .int .u64 0]) ?_ 3 _ rfl; (with_reducible repeat (first | refine blk_drewN ?_ _ | refine blk_drew ?_ | refine blk_alloc ?_ _)); refine blk_put (cs := #[.bool t297, .int .u64 t298, .int .u64 0, .int .u64 0, .int .u64 0, .int .u64 0]) ?_ 2 _ rfl; (with_reducible repeat (first | refine blk_drewN ?_ _ | refine blk_drew ?_ | refine blk_alloc ?_ _)); refine blk_put (cs := #[.bool t297, .int .u64 0, .int .u64 0, .int .u64 0, .int .u64 0, .int .u64 0]) ?_ 1 _ rfl; (with_reducible repeat (first | refine blk_drewN ?_ _ | refine blk_drew ?_ | refine blk_alloc ?_ _)); refine blk_put (cs := #[.bool false, .int .u64 0, .int .u64 0, .int .u64 0, .int .u64 0, .int .u64 0]) ?_ 0 _ rfl; (with_reducible repeat (first | refine blk_drewN ?_ _ | refine blk_drew ?_ | refine blk_alloc ?_ _)); exact BK278.out) Tryd.underlying56 rfl (by kernel_rfl)) rfl ?_
    exact ⟨by first | rfl | (simp [errW_none, errW_some] <;> rfl) | (simp [*, errW_none, errW_some] <;> rfl), by repeat (first | (with_reducible first | exact HB.out | apply below_alloc | apply pw_below_drewN | apply below_drew1 | refine below_set ?_ GE277.out | refine below_set ?_ GE278.out) | exact HB.out)⟩
end Go.Proofs.YtbodlnoipkommaaDoor.Q
namespace Go.Proofs.YtbodlnoipkommaaDoor.Re
open Go Go.RowKit
theorem less_total (x y : List UInt8) : (!(Op.bytesLess x y || x == y)) = Op.bytesLess y x := by
  induction x generalizing y with
  | nil => cases y <;> simp [Op.bytesLess]
  | cons a x ih =>
    cases y with
    | nil => simp [Op.bytesLess]
    | cons b y =>
      simp only [Op.bytesLess, List.cons_beq_cons]
      rw [← ih y]
      by_cases h : a = b
      · subst h; simp [UInt8.lt_irrefl]
      · have h' : ¬ b = a := fun e => h e.symm
        have e1 : (a == b) = false := by simp [h]
        have e2 : (b == a) = false := by simp [h']
        simp only [e1, e2, Bool.false_and, Bool.or_false]
        by_cases hl : a < b
        · have : ¬ b < a := UInt8.not_lt.mpr (UInt8.le_of_lt hl)
          simp [hl, this]
        · have : b < a := by
            rcases Nat.lt_or_gt_of_ne (fun e => h (UInt8.toNat_inj.mp e)) with q | q
            · exact absurd (UInt8.lt_iff_toNat_lt.mpr q) hl
            · exact UInt8.lt_iff_toNat_lt.mpr q
          simp [hl, this]
theorem gtr_str (t : TypeId) (a b : ByteArray) : binOp .gtr t (.string a) (.string b) = pure (.bool (Op.bytesLess b.toList a.toList)) := by
  rw [binOp_string_gtr, less_total]
end Go.Proofs.YtbodlnoipkommaaDoor.Re
namespace Go.Proofs.YtbodlnoipkommaaDoor.Q
open Go.RowKit Go.Proofs.YtbodlnoipkommaaDoorW.PrintWords Go.Proofs.YtbodlnoipkommaaDoorW.PrintLast Go.Proofs.YtbodlnoipkommaaDoorW.PrintMore
attribute [local go_sem high] Go.Proofs.YtbodlnoipkommaaDoor.Re.gtr_str
attribute [local go_sem] max2_int min2_int max_two min_two max_three min_three max_four min_four   -- for this text's walks alone
set_option linter.unusedVariables false
set_option linter.unusedSimpArgs false
end Go.Proofs.YtbodlnoipkommaaDoor.Q
namespace Go.Proofs.YtbodlnoipkommaaDoor.Q
open Go.RowKit Go.Proofs.YtbodlnoipkommaaDoorW.PrintWords Go.Proofs.YtbodlnoipkommaaDoorW.PrintLast Go.Proofs.YtbodlnoipkommaaDoorW.PrintMore
attribute [local go_sem] max2_int min2_int max_two min_two max_three min_three max_four min_four   -- for this text's walks alone
set_option linter.unusedVariables false
set_option linter.unusedSimpArgs false
def chanceryref17_Right.j0 : Nat → Int → Bool → Int → Int → ByteArray → Option (Bool)
  | 0, _, _, _, _, _ => none
  | k + 1, x4, x30, x276000, x276001, x276002 => if x30 = true then (some (x276002.toList == ([] : List UInt8))) else (if x4 = 4 then (if x276001 = 0 then (some (decide ((x276002.size : Int) ≤ 200))) else (some false)) else (if x4 = 5 then (if x276001 = 0 then (some (decide ((x276002.size : Int) ≤ 200))) else (some false)) else (some false)))
def chanceryref17_Right.f (k : Nat) (a0_0 : Int) (a0_1 : Int) (a0_2 : ByteArray) : Option (Bool) := if a0_0 = 0 then (if a0_1 = 0 then (some (a0_2.toList == ([] : List UInt8))) else (some false)) else (if a0_0 = 1 then (if a0_2.toList = ([] : List UInt8) then (if a0_1 = 0 then (some true) else (some (a0_1 == 1))) else (some false)) else (if a0_0 = 2 then (chanceryref17_Right.j0 k a0_0 (a0_0 == 2) a0_0 a0_1 a0_2) else (chanceryref17_Right.j0 k a0_0 (a0_0 == 3) a0_0 a0_1 a0_2)))
set_option maxHeartbeats 8000000 in
set_option maxRecDepth 100000 in
theorem chanceryref17_Right.calls (k : Nat) (a0_0 : Int) (a0_1 : Int) (a0_2 : ByteArray) (r : Bool) (w : World) (h : chanceryref17_Right.f k a0_0 a0_1 a0_2 = some r) :
    Calls Tryd.prog 14 #[.agg #[.int .u8 a0_0, .int .i64 a0_1, .string a0_2]] w fun e w' => e = .returned (.bool r) ∧ Below w.heap.size w w' := by
  have hu25 := Tryd.underlying25
  have HB := Aside0.mk (Below.refl w.heap.size w)
  have H : (if a0_0 = 0 then (if a0_1 = 0 then (some (a0_2.toList == ([] : List UInt8))) else (some false)) else (if a0_0 = 1 then (if a0_2.toList = ([] : List UInt8) then (if a0_1 = 0 then (some true) else (some (a0_1 == 1))) else (some false)) else (if a0_0 = 2 then (chanceryref17_Right.j0 k a0_0 (a0_0 == 2) a0_0 a0_1 a0_2) else (chanceryref17_Right.j0 k a0_0 (a0_0 == 3) a0_0 a0_1 a0_2)))) = some r := h
  clear h
  by_cases c2 : a0_0 = 0
  · rw [if_pos c2] at H
    have c2b0 : (a0_0 == 0) = true := beq_iff_eq.mpr c2
    have c2b1 : (a0_0 != 0) = false := bne_eq_false_iff_eq.mpr c2
    clear c2
    by_cases c3 : a0_1 = 0
    · rw [if_pos c3] at H
      have c3b0 : (a0_1 == 0) = true := beq_iff_eq.mpr c3
      have c3b1 : (a0_1 != 0) = false := bne_eq_false_iff_eq.mpr c3
      clear c3
      obtain rfl := Option.some.inj H
      go_enter Tryd.func14, Tryd.ntmps14
      go_wp2_with (first | ((with_reducible refine gate_dst (N := 1) rfl ?_); (try (refine gate_guard (by rfl) ?_; dsimp only)); refine box_event ?hg (N := 1) ?hd (cs := #[.int .u8 a0_0, .int .i64 a0_1, .string a0_2]) (t := 25) ?hr ?_; (case hd => rfl); (case hg => rfl); (case hr => first | (go_simp; done) | (go_simp; rfl)); intro gb275 hg w4 hbox hb; have n0_ := Aside0.mk (below_step (by repeat (first | (with_reducible first | exact HB.out | apply below_alloc | apply pw_below_drewN | apply below_drew1) | exact HB.out)) hb); have n1_ := Aside0.mk (hbox); have n2_ := Aside0.mk ((by rw [hg]; exact (below_size (by repeat (first | (with_reducible first | exact HB.out | apply below_alloc | apply pw_below_drewN | apply below_drew1) | exact HB.out))) : w.heap.size ≤ gb275)); have n3_ := Aside0.mk ((by rw [hg]; exact (below_size (by repeat (first | (with_reducible first | exact HB.out | apply below_alloc | apply pw_below_drewN | apply below_drew1) | exact HB.out))) : w.heap.size ≤ gb275)); clear HB; have HB := n0_; have BK275 := n1_; have GW275 := n2_; have GE275 := n3_; clear n0_ n1_ n2_ n3_; clear hb hbox hg; have hcz5_0 : w4.cell? ⟨gb275, 0, none⟩ = some (.int .u8 a0_0) := (blk_cell BK275.out 0).trans rfl; have hcz5_1 : w4.cell? ⟨gb275, 1, none⟩ = some (.int .i64 a0_1) := (blk_cell BK275.out 1).trans rfl; have hcz5_2 : w4.cell? ⟨gb275, 2, none⟩ = some (.string a0_2) := (blk_cell BK275.out 2).trans rfl; have hfz5_0 := blk_frozen BK275.out 0; have hfz5_1 := blk_frozen BK275.out 1; have hfz5_2 := blk_frozen BK275.out 2))
      go_ret
      exact ⟨by first | rfl | (simp [errW_none, errW_some] <;> rfl) | (simp [*, errW_none, errW_some] <;> rfl), by repeat (first | (with_reducible first | exact HB.out | apply below_alloc | apply pw_below_drewN | apply below_drew1 | refine below_set ?_ GE275.out) | exact HB.out)⟩
    · rw [if_neg c3] at H
      have c3b0 : (a0_1 == 0) = false := beq_eq_false_iff_ne.mpr c3
      have c3b1 : (a0_1 != 0) = true := bne_iff_ne.mpr c3
      obtain rfl := Option.some.inj H
      go_enter Tryd.func14, Tryd.ntmps14
      go_wp2_with (first | ((with_reducible refine gate_dst (N := 1) rfl ?_); (try (refine gate_guard (by rfl) ?_; dsimp only)); refine box_event ?hg (N := 1) ?hd (cs := #[.int .u8 a0_0, .int .i64 a0_1, .string a0_2]) (t := 25) ?hr ?_; (case hd => rfl); (case hg => rfl); (case hr => first | (go_simp; done) | (go_simp; rfl)); intro gb275 hg w6 hbox hb; have n0_ := Aside0.mk (below_step (by repeat (first | (with_reducible first | exact HB.out | apply below_alloc | apply pw_below_drewN | apply below_drew1) | exact HB.out)) hb); have n1_ := Aside0.mk (hbox); have n2_ := Aside0.mk ((by rw [hg]; exact (below_size (by repeat (first | (with_reducible first | exact HB.out | apply below_alloc | apply pw_below_drewN | apply below_drew1) | exact HB.out))) : w.heap.size ≤ gb275)); have n3_ := Aside0.mk ((by rw [hg]; exact (below_size (by repeat (first | (with_reducible first | exact HB.out | apply below_alloc | apply pw_below_drewN | apply below_drew1) | exact HB.out))) : w.heap.size ≤ gb275)); clear HB; have HB := n0_; have BK275 := n1_; have GW275 := n2_; have GE275 := n3_; clear n0_ n1_ n2_ n3_; clear hb hbox hg; have hcz7_0 : w6.cell? ⟨gb275, 0, none⟩ = some (.int .u8 a0_0) := (blk_cell BK275.out 0).trans rfl; have hcz7_1 : w6.cell? ⟨gb275, 1, none⟩ = some (.int .i64 a0_1) := (blk_cell BK275.out 1).trans rfl; have hcz7_2 : w6.cell? ⟨gb275, 2, none⟩ = some (.string a0_2) := (blk_cell BK275.out 2).trans rfl; have hfz7_0 := blk_frozen BK275.out 0; have hfz7_1 := blk_frozen BK275.out 1; have hfz7_2 := blk_frozen BK275.out 2))
      go_ret
      exact ⟨by first | rfl | (simp [errW_none, errW_some] <;> rfl) | (simp [*, errW_none, errW_some] <;> rfl), by repeat (first | (with_reducible first | exact HB.out | apply below_alloc | apply pw_below_drewN | apply below_drew1 | refine below_set ?_ GE275.out) | exact HB.out)⟩
  · rw [if_neg c2] at H
    have c2b0 : (a0_0 == 0) = false := beq_eq_false_iff_ne.mpr c2
    have c2b1 : (a0_0 != 0) = true := bne_iff_ne.mpr c2
    by_cases c8 : a0_0 = 1
    · rw [if_pos c8] at H
      have c8b0 : (a0_0 == 1) = true := beq_iff_eq.mpr c8
      have c8b1 : (a0_0 != 1) = false := bne_eq_false_iff_eq.mpr c8
      clear c8
      by_cases c9 : a0_2.toList = ([] : List UInt8)
      · rw [if_pos c9] at H
        have c9b0 : (a0_2.toList == ([] : List UInt8)) = true := beq_iff_eq.mpr c9
        have c9b1 : (a0_2.toList != ([] : List UInt8)) = false := bne_eq_false_iff_eq.mpr c9
        clear c9
        by_cases c10 : a0_1 = 0
        · rw [if_pos c10] at H
          have c10b0 : (a0_1 == 0) = true := beq_iff_eq.mpr c10
          have c10b1 : (a0_1 != 0) = false := bne_eq_false_iff_eq.mpr c10
          clear c10
          obtain rfl := Option.some.inj H
          go_enter Tryd.func14, Tryd.ntmps14
          go_wp2_with (first | ((with_reducible refine gate_dst (N := 1) rfl ?_); (try (refine gate_guard (by rfl) ?_; dsimp only)); refine box_event ?hg (N := 1) ?hd (cs := #[.int .u8 a0_0, .int .i64 a0_1, .string a0_2]) (t := 25) ?hr ?_; (case hd => rfl); (case hg => rfl); (case hr => first | (go_simp; done) | (go_simp; rfl)); intro gb275 hg w11 hbox hb; have n0_ := Aside0.mk (below_step (by repeat (first | (with_reducible first | exact HB.out | apply below_alloc | apply pw_below_drewN | apply below_drew1) | exact HB.out)) hb); have n1_ := Aside0.mk (hbox); have n2_ := Aside0.mk ((by rw [hg]; exact (below_size (by repeat (first | (with_reducible first | exact HB.out | apply below_alloc | apply pw_below_drewN | apply below_drew1) | exact HB.out))) : w.heap.size ≤ gb275)); have n3_ := Aside0.mk ((by rw [hg]; exact (below_size (by repeat (first | (with_reducible first | exact HB.out | apply below_alloc | apply pw_below_drewN | apply below_drew1) | exact HB.out))) : w.heap.size ≤ gb275)); clear HB; have HB := n0_; have BK275 := n1_; have GW275 := n2_; have GE275 := n3_; clear n0_ n1_ n2_ n3_; clear hb hbox hg; have hcz12_0 : w11.cell? ⟨gb275, 0, none⟩ = some (.int .u8 a0_0) := (blk_cell BK275.out 0).trans rfl; have hcz12_1 : w11.cell? ⟨gb275, 1, none⟩ = some (.int .i64 a0_1) := (blk_cell BK275.out 1).trans rfl; have hcz12_2 : w11.cell? ⟨gb275, 2, none⟩ = some (.string a0_2) := (blk_cell BK275.out 2).trans rfl; have hfz12_0 := blk_frozen BK275.out 0; have hfz12_1 := blk_frozen BK275.out 1; have hfz12_2 := blk_frozen BK275.out 2))
          go_ret
          exact ⟨by first | rfl | (simp [errW_none, errW_some] <;> rfl) | (simp [*, errW_none, errW_some] <;> rfl), by repeat (first | (with_reducible first | exact HB.out | apply below_alloc | apply pw_below_drewN | apply below_drew1 | refine below_set ?_ GE275.out) | exact HB.out)⟩
        · rw [if_neg c10] at H
          have c10b0 : (a0_1 == 0) = false := beq_eq_false_iff_ne.mpr c10
          have c10b1 : (a0_1 != 0) = true := bne_iff_ne.mpr c10
          obtain rfl := Option.some.inj H
          go_enter Tryd.func14, Tryd.ntmps14
          go_wp2_with (first | ((with_reducible refine gate_dst (N := 1) rfl ?_); (try (refine gate_guard (by rfl) ?_; dsimp only)); refine box_event ?hg (N := 1) ?hd (cs := #[.int .u8 a0_0, .int .i64 a0_1, .string a0_2]) (t := 25) ?hr ?_; (case hd => rfl); (case hg => rfl); (case hr => first | (go_simp; done) | (go_simp; rfl)); intro gb275 hg w13 hbox hb; have n0_ := Aside0.mk (below_step (by repeat (first | (with_reducible first | exact HB.out | apply below_alloc | apply pw_below_drewN | apply below_drew1) | exact HB.out)) hb); have n1_ := Aside0.mk (hbox); have n2_ := Aside0.mk ((by rw [hg]; exact (below_size (by repeat (first | (with_reducible first | exact HB.out | apply below_alloc | apply pw_below_drewN | apply below_drew1) | exact HB.out))) : w.heap.size ≤ gb275)); have n3_ := Aside0.mk ((by rw [hg]; exact (below_size (by repeat (first | (with_reducible first | exact HB.out | apply below_alloc | apply pw_below_drewN | apply below_drew1) | exact HB.out))) : w.heap.size ≤ gb275)); clear HB; have HB := n0_; have BK275 := n1_; have GW275 := n2_; have GE275 := n3_; clear n0_ n1_ n2_ n3_; clear hb hbox hg; have hcz14_0 : w13.cell? ⟨gb275, 0, none⟩ = some (.int .u8 a0_0) := (blk_cell BK275.out 0).trans rfl; have hcz14_1 : w13.cell? ⟨gb275, 1, none⟩ = some (.int .i64 a0_1) := (blk_cell BK275.out 1).trans rfl; have hcz14_2 : w13.cell? ⟨gb275, 2, none⟩ = some (.string a0_2) := (blk_cell BK275.out 2).trans rfl; have hfz14_0 := blk_frozen BK275.out 0; have hfz14_1 := blk_frozen BK275.out 1; have hfz14_2 := blk_frozen BK275.out 2))
          go_ret
          exact ⟨by first | rfl | (simp [errW_none, errW_some] <;> rfl) | (simp [*, errW_none, errW_some] <;> rfl), by repeat (first | (with_reducible first | exact HB.out | apply below_alloc | apply pw_below_drewN | apply below_drew1 | refine below_set ?_ GE275.out) | exact HB.out)⟩
      · rw [if_neg c9] at H
        have c9b0 : (a0_2.toList == ([] : List UInt8)) = false := beq_eq_false_iff_ne.mpr c9
        have c9b1 : (a0_2.toList != ([] : List UInt8)) = true := bne_iff_ne.mpr c9
        obtain rfl := Option.some.inj H
        go_enter Tryd.func14, Tryd.ntmps14
        go_wp2_with (first | ((with_reducible refine gate_dst (N := 1) rfl ?_); (try (refine gate_guard (by rfl) ?_; dsimp only)); refine box_event ?hg (N := 1) ?hd (cs := #[.int .u8 a0_0, .int .i64 a0_1, .string a0_2]) (t := 25) ?hr ?_; (case hd => rfl); (case hg => rfl); (case hr => first | (go_simp; done) | (go_simp; rfl)); intro gb275 hg w15 hbox hb; have n0_ := Aside0.mk (below_step (by repeat (first | (with_reducible first | exact HB.out | apply below_alloc | apply pw_below_drewN | apply below_drew1) | exact HB.out)) hb); have n1_ := Aside0.mk (hbox); have n2_ := Aside0.mk ((by rw [hg]; exact (below_size (by repeat (first | (with_reducible first | exact HB.out | apply below_alloc | apply pw_below_drewN | apply below_drew1) | exact HB.out))) : w.heap.size ≤ gb275)); have n3_ := Aside0.mk ((by rw [hg]; exact (below_size (by repeat (first | (with_reducible first | exact HB.out | apply below_alloc | apply pw_below_drewN | apply below_drew1) | exact HB.out))) : w.heap.size ≤ gb275)); clear HB; have HB := n0_; have BK275 := n1_; have GW275 := n2_; have GE275 := n3_; clear n0_ n1_ n2_ n3_; clear hb hbox hg; have hcz16_0 : w15.cell? ⟨gb275, 0, none⟩ = some (.int .u8 a0_0) := (blk_cell BK275.out 0).trans rfl; have hcz16_1 : w15.cell? ⟨gb275, 1, none⟩ = some (.int .i64 a0_1) := (blk_cell BK275.out 1).trans rfl; have hcz16_2 : w15.cell? ⟨gb275, 2, none⟩ = some (.string a0_2) := (blk_cell BK275.out 2).trans rfl; have hfz16_0 := blk_frozen BK275.out 0; have hfz16_1 := blk_frozen BK275.out 1; have hfz16_2 := blk_frozen BK275.out 2))
        go_ret
        exact ⟨by first | rfl | (simp [errW_none, errW_some] <;> rfl) | (simp [*, errW_none, errW_some] <;> rfl), by repeat (first | (with_reducible first | exact HB.out | apply below_alloc | apply pw_below_drewN | apply below_drew1 | refine below_set ?_ GE275.out) | exact HB.out)⟩
    · rw [if_neg c8] at H
      have c8b0 : (a0_0 == 1) = false := beq_eq_false_iff_ne.mpr c8
      have c8b1 : (a0_0 != 1) = true := bne_iff_ne.mpr c8
      have HC17 := Aside0.mk H
      clear H
      go_enter Tryd.func14, Tryd.ntmps14
      go_upto_if 30 with (first | ((with_reducible refine gate_dst (N := 1) rfl ?_); (try (refine gate_guard (by rfl) ?_; dsimp only)); refine box_event ?hg (N := 1) ?hd (cs := #[.int .u8 a0_0, .int .i64 a0_1, .string a0_2]) (t := 25) ?hr ?_; (case hd => rfl); (case hg => rfl); (case hr => first | (go_simp; done) | (go_simp; rfl)); intro gb275 hg w18 hbox hb; have n0_ := Aside0.mk (below_step (by repeat (first | (with_reducible first | exact HB.out | apply below_alloc | apply pw_below_drewN | apply below_drew1) | exact HB.out)) hb); have n1_ := Aside0.mk (hbox); have n2_ := Aside0.mk ((by rw [hg]; exact (below_size (by repeat (first | (with_reducible first | exact HB.out | apply below_alloc | apply pw_below_drewN | apply below_drew1) | exact HB.out))) : w.heap.size ≤ gb275)); have n3_ := Aside0.mk ((by rw [hg]; exact (below_size (by repeat (first | (with_reducible first | exact HB.out | apply below_alloc | apply pw_below_drewN | apply below_drew1) | exact HB.out))) : w.heap.size ≤ gb275)); clear HB; have HB := n0_; have BK275 := n1_; have GW275 := n2_; have GE275 := n3_; clear n0_ n1_ n2_ n3_; clear hb hbox hg; have hcz19_0 : w18.cell? ⟨gb275, 0, none⟩ = some (.int .u8 a0_0) := (blk_cell BK275.out 0).trans rfl; have hcz19_1 : w18.cell? ⟨gb275, 1, none⟩ = some (.int .i64 a0_1) := (blk_cell BK275.out 1).trans rfl; have hcz19_2 : w18.cell? ⟨gb275, 2, none⟩ = some (.string a0_2) := (blk_cell BK275.out 2).trans rfl; have hfz19_0 := blk_frozen BK275.out 0; have hfz19_1 := blk_frozen BK275.out 1; have hfz19_2 := blk_frozen BK275.out 2))
      (try simp only [Act.put, List.setIfInBounds_toArray, List.set_cons_zero, List.set_cons_succ])
      go_cut [30] (fun v30 wc => ∃ (kq : Nat) (x30_16 : Bool), v30 = .bool x30_16 ∧ Aside0 (chanceryref17_Right.j0 kq a0_0 x30_16 a0_0 a0_1 a0_2 = some r) ∧ Aside0 (kq ≤ k) ∧ Aside0 (wc.heap[gb275]? = some (.cells #[.int .u8 a0_0, .int .i64 a0_1, .string a0_2] 25 (0, 0))) ∧ Aside0 (Below w.heap.size w wc))
      case first =>
        have H := HC17.out
        clear HC17
        by_cases c20 : a0_0 = 2
        · rw [if_pos c20] at H
          have c20b0 : (a0_0 == 2) = true := beq_iff_eq.mpr c20
          have c20b1 : (a0_0 != 2) = false := bne_eq_false_iff_eq.mpr c20
          clear c20
          (first | rw [c20b0] | (simp only [i64_w, i32_w]; rw [c20b0]) | skip)
          have H' := Aside0.mk H
          clear H
          go_wp2
          go_meet
          case rel => exact ⟨_, ((a0_0 == 2)), (by first | rfl | (simp; done) | (simp [*]; done)), H', ⟨by first | omega | exact Nat.le_refl _⟩, ⟨by (with_reducible repeat (first | refine blk_drewN ?_ _ | refine blk_drew ?_ | refine blk_alloc ?_ _)); exact BK275.out⟩, ⟨by repeat (first | (with_reducible first | exact HB.out | apply below_alloc | apply pw_below_drewN | apply below_drew1 | refine below_set ?_ GE275.out) | exact HB.out)⟩⟩
        · rw [if_neg c20] at H
          have c20b0 : (a0_0 == 2) = false := beq_eq_false_iff_ne.mpr c20
          have c20b1 : (a0_0 != 2) = true := bne_iff_ne.mpr c20
          (first | rw [c20b0] | (simp only [i64_w, i32_w]; rw [c20b0]) | skip)
          have H' := Aside0.mk H
          clear H
          go_wp2
          go_meet
          case rel => exact ⟨_, ((a0_0 == 3)), (by first | rfl | (simp; done) | (simp [*]; done)), H', ⟨by first | omega | exact Nat.le_refl _⟩, ⟨by (with_reducible repeat (first | refine blk_drewN ?_ _ | refine blk_drew ?_ | refine blk_alloc ?_ _)); exact BK275.out⟩, ⟨by repeat (first | (with_reducible first | exact HB.out | apply below_alloc | apply pw_below_drewN | apply below_drew1 | refine below_set ?_ GE275.out) | exact HB.out)⟩⟩
      case rest =>
        clear HC17
        try clear c1
        try clear c2
        try clear c2b0
        try clear c2b1
        try clear p2
        try clear c3
        try clear c3b0
        try clear c3b1
        try clear c8
        try clear c8b0
        try clear c8b1
        try clear c9
        try clear c9b0
        try clear c9b1
        try clear c10
        try clear c10b0
        try clear c10b1
        try clear c14
        try clear c20
        try clear c20b0
        try clear c20b1
        try clear hcz12_0
        try clear hcz12_1
        try clear hcz12_2
        try clear hcz14_0
        try clear hcz14_1
        try clear hcz14_2
        try clear hcz16_0
        try clear hcz16_1
        try clear hcz16_2
        try clear hcz19_0
        try clear hcz19_1
        try clear hcz19_2
        try clear hcz5_0
        try clear hcz5_1
        try clear hcz5_2
        try clear hcz7_0
        try clear hcz7_1
        try clear hcz7_2
        try clear hfz12_0
        try clear hfz12_1
        try clear hfz12_2
        try clear hfz14_0
        try clear hfz14_1
        try clear hfz14_2
        try clear hfz16_0
        try clear hfz16_1
        try clear hfz16_2
        try clear hfz19_0
        try clear hfz19_1
        try clear hfz19_2
        try clear hfz5_0
        try clear hfz5_1
        try clear hfz5_2
        try clear hfz7_0
        try clear hfz7_1
        try clear hfz7_2
        obtain ⟨kq, x30_16, rfl, HA, HJ16, BK275, HB⟩ := hcut
        cases kq with
        | zero => exact absurd HA.out (by simp [chanceryref17_Right.j0])
        | succ kj16 =>
          have H := HA.out
          clear HA
          simp only [chanceryref17_Right.j0] at H
          by_cases c21 : x30_16 = true
          · subst c21
            have H1 : (some (a0_2.toList == ([] : List UInt8))) = some r := by rw [if_pos rfl] at H; exact H
            clear H
            have H := H1
            clear H1
            obtain rfl := Option.some.inj H
            have hcz22_0 : wc.cell? ⟨gb275, 0, none⟩ = some (.int .u8 a0_0) := (blk_cell BK275.out 0).trans rfl
            have hcz22_1 : wc.cell? ⟨gb275, 1, none⟩ = some (.int .i64 a0_1) := (blk_cell BK275.out 1).trans rfl
            have hcz22_2 : wc.cell? ⟨gb275, 2, none⟩ = some (.string a0_2) := (blk_cell BK275.out 2).trans rfl
            have hfz22_0 := blk_frozen BK275.out 0
            have hfz22_1 := blk_frozen BK275.out 1
            have hfz22_2 := blk_frozen BK275.out 2
            go_wp2
            go_ret
            exact ⟨by first | rfl | (simp [errW_none, errW_some] <;> rfl) | (simp [*, errW_none, errW_some] <;> rfl), by repeat (first | (with_reducible first | exact HB.out | apply below_alloc | apply pw_below_drewN | apply below_drew1 | refine below_set ?_ GE275.out) | exact HB.out)⟩
          · replace c21 := Bool.eq_false_iff.mpr c21
            subst c21
            have H1 : (if a0_0 = 4 then (if a0_1 = 0 then (some (decide ((a0_2.size : Int) ≤ 200))) else (some false)) else (if a0_0 = 5 then (if a0_1 = 0 then (some (decide ((a0_2.size : Int) ≤ 200))) else (some false)) else (some false))) = some r := by rw [if_neg (show ¬ (false = true) by decide)] at H; exact H
            clear H
            have H := H1
            clear H1
            by_cases c23 : a0_0 = 4
            · rw [if_pos c23] at H
              have c23b0 : (a0_0 == 4) = true := beq_iff_eq.mpr c23
              have c23b1 : (a0_0 != 4) = false := bne_eq_false_iff_eq.mpr c23
              clear c23
              by_cases c24 : a0_1 = 0
              · rw [if_pos c24] at H
                have c24b0 : (a0_1 == 0) = true := beq_iff_eq.mpr c24
                have c24b1 : (a0_1 != 0) = false := bne_eq_false_iff_eq.mpr c24
                clear c24
                obtain rfl := Option.some.inj H
                have hcz25_0 : wc.cell? ⟨gb275, 0, none⟩ = some (.int .u8 a0_0) := (blk_cell BK275.out 0).trans rfl
                have hcz25_1 : wc.cell? ⟨gb275, 1, none⟩ = some (.int .i64 a0_1) := (blk_cell BK275.out 1).trans rfl
                have hcz25_2 : wc.cell? ⟨gb275, 2, none⟩ = some (.string a0_2) := (blk_cell BK275.out 2).trans rfl
                have hfz25_0 := blk_frozen BK275.out 0
                have hfz25_1 := blk_frozen BK275.out 1
                have hfz25_2 := blk_frozen BK275.out 2
                go_wp2
                go_ret
                exact ⟨by first | rfl | (simp [errW_none, errW_some] <;> rfl) | (simp [*, errW_none, errW_some] <;> rfl), by repeat (first | (with_reducible first | exact HB.out | apply below_alloc | apply pw_below_drewN | apply below_drew1 | refine below_set ?_ GE275.out) | exact HB.out)⟩
              · rw [if_neg c24] at H
                have c24b0 : (a0_1 == 0) = false := beq_eq_false_iff_ne.mpr c24
                have c24b1 : (a0_1 != 0) = true := bne_iff_ne.mpr c24
                obtain rfl := Option.some.inj H
                have hcz26_0 : wc.cell? ⟨gb275, 0, none⟩ = some (.int .u8 a0_0) := (blk_cell BK275.out 0).trans rfl
                have hcz26_1 : wc.cell? ⟨gb275, 1, none⟩ = some (.int .i64 a0_1) := (blk_cell BK275.out 1).trans rfl
                have hcz26_2 : wc.cell? ⟨gb275, 2, none⟩ = some (.string a0_2) := (blk_cell BK275.out 2).trans rfl
                have hfz26_0 := blk_frozen BK275.out 0
                have hfz26_1 := blk_frozen BK275.out 1
                have hfz26_2 := blk_frozen BK275.out 2
                go_wp2
                go_ret
                exact ⟨by first | rfl | (simp [errW_none, errW_some] <;> rfl) | (simp [*, errW_none, errW_some] <;> rfl), by repeat (first | (with_reducible first | exact HB.out | apply below_alloc | apply pw_below_drewN | apply below_drew1 | refine below_set ?_ GE275.out) | exact HB.out)⟩
            · rw [if_neg c23] at H
              have c23b0 : (a0_0 == 4) = false := beq_eq_false_iff_ne.mpr c23
              have c23b1 : (a0_0 != 4) = true := bne_iff_ne.mpr c23
              by_cases c27 : a0_0 = 5
              · rw [if_pos c27] at H
                have c27b0 : (a0_0 == 5) = true := beq_iff_eq.mpr c27
                have c27b1 : (a0_0 != 5) = false := bne_eq_false_iff_eq.mpr c27
                clear c27
                by_cases c28 : a0_1 = 0
                · rw [if_pos c28] at H
                  have c28b0 : (a0_1 == 0) = true := beq_iff_eq.mpr c28
                  have c28b1 : (a0_1 != 0) = false := bne_eq_false_iff_eq.mpr c28
                  clear c28
                  obtain rfl := Option.some.inj H
                  have hcz29_0 : wc.cell? ⟨gb275, 0, none⟩ = some (.int .u8 a0_0) := (blk_cell BK275.out 0).trans rfl
                  have hcz29_1 : wc.cell? ⟨gb275, 1, none⟩ = some (.int .i64 a0_1) := (blk_cell BK275.out 1).trans rfl
                  have hcz29_2 : wc.cell? ⟨gb275, 2, none⟩ = some (.string a0_2) := (blk_cell BK275.out 2).trans rfl
                  have hfz29_0 := blk_frozen BK275.out 0
                  have hfz29_1 := blk_frozen BK275.out 1
                  have hfz29_2 := blk_frozen BK275.out 2
                  go_wp2
                  go_ret
                  exact ⟨by first | rfl | (simp [errW_none, errW_some] <;> rfl) | (simp [*, errW_none, errW_some] <;> rfl), by repeat (first | (with_reducible first | exact HB.out | apply below_alloc | apply pw_below_drewN | apply below_drew1 | refine below_set ?_ GE275.out) | exact HB.out)⟩
                · rw [if_neg c28] at H
                  have c28b0 : (a0_1 == 0) = false := beq_eq_false_iff_ne.mpr c28
                  have c28b1 : (a0_1 != 0) = true := bne_iff_ne.mpr c28
                  obtain rfl := Option.some.inj H
                  have hcz30_0 : wc.cell? ⟨gb275, 0, none⟩ = some (.int .u8 a0_0) := (blk_cell BK275.out 0).trans rfl
                  have hcz30_1 : wc.cell? ⟨gb275, 1, none⟩ = some (.int .i64 a0_1) := (blk_cell BK275.out 1).trans rfl
                  have hcz30_2 : wc.cell? ⟨gb275, 2, none⟩ = some (.string a0_2) := (blk_cell BK275.out 2).trans rfl
                  have hfz30_0 := blk_frozen BK275.out 0
                  have hfz30_1 := blk_frozen BK275.out 1
                  have hfz30_2 := blk_frozen BK275.out 2
                  go_wp2
                  go_ret
                  exact ⟨by first | rfl | (simp [errW_none, errW_some] <;> rfl) | (simp [*, errW_none, errW_some] <;> rfl), by repeat (first | (with_reducible first | exact HB.out | apply below_alloc | apply pw_below_drewN | apply below_drew1 | refine below_set ?_ GE275.out) | exact HB.out)⟩
              · rw [if_neg c27] at H
                have c27b0 : (a0_0 == 5) = false := beq_eq_false_iff_ne.mpr c27
                have c27b1 : (a0_0 != 5) = true := bne_iff_ne.mpr c27
                obtain rfl := Option.some.inj H
                go_wp2
                go_ret
                exact ⟨by first | rfl | (simp [errW_none, errW_some] <;> rfl) | (simp [*, errW_none, errW_some] <;> rfl), by repeat (first | (with_reducible first | exact HB.out | apply below_alloc | apply pw_below_drewN | apply below_drew1 | refine below_set ?_ GE275.out) | exact HB.out)⟩
end Go.Proofs.YtbodlnoipkommaaDoor.Q
namespace Go.Proofs.YtbodlnoipkommaaDoor.Q
open Go.RowKit Go.Proofs.YtbodlnoipkommaaDoorW.PrintWords Go.Proofs.YtbodlnoipkommaaDoorW.PrintLast Go.Proofs.YtbodlnoipkommaaDoorW.PrintMore
attribute [local go_sem] max2_int min2_int max_two min_two max_three min_three max_four min_four   -- for this text's walks alone
set_option linter.unusedVariables false
set_option linter.unusedSimpArgs false
end Go.Proofs.YtbodlnoipkommaaDoor.Q
namespace Go.Proofs.YtbodlnoipkommaaDoor.Q
open Go.RowKit Go.Proofs.YtbodlnoipkommaaDoorW.PrintWords Go.Proofs.YtbodlnoipkommaaDoorW.PrintLast Go.Proofs.YtbodlnoipkommaaDoorW.PrintMore
attribute [local go_sem] max2_int min2_int max_two min_two max_three min_three max_four min_four   -- for this text's walks alone
set_option linter.unusedVariables false
set_option linter.unusedSimpArgs false
end Go.Proofs.YtbodlnoipkommaaDoor.Q
namespace Go.Proofs.YtbodlnoipkommaaDoor.Q
open Go.Proofs.YtbodlnoipkommaaDoor.Rc
open Go.RowKit Go.Proofs.YtbodlnoipkommaaDoorW.PrintWords Go.Proofs.YtbodlnoipkommaaDoorW.PrintLast Go.Proofs.YtbodlnoipkommaaDoorW.PrintMore
attribute [local go_sem] max2_int min2_int max_two min_two max_three min_three max_four min_four   -- for this text's walks alone
set_option linter.unusedVariables false
set_option linter.unusedSimpArgs false
def chanceryref17_answer.f (a0 : Int) (a1_0 : Bool) (a1_1 : Int) (a1_2 : Int) (a1_3 : Int) (a1_4 : Int) (a1_5 : Int) : Option (Int × Int × ByteArray × Int) := (chanceryref17_told.f a1_0 a1_1 a1_2 a1_3 a1_4 a1_5).bind fun bt381 => (if bt381.2 = true then (some (a0, bt381.1, (⟨#[]⟩ : ByteArray), 0)) else (some (0, 0, (⟨#[]⟩ : ByteArray), 271)))
set_option maxHeartbeats 8000000 in
set_option maxRecDepth 100000 in
theorem chanceryref17_answer.calls (a0 : Int) (a1_0 : Bool) (a1_1 : Int) (a1_2 : Int) (a1_3 : Int) (a1_4 : Int) (a1_5 : Int) (r1 : Int) (r2 : Int) (r3 : ByteArray) (r4 : Int) (w : World) (h : chanceryref17_answer.f a0 a1_0 a1_1 a1_2 a1_3 a1_4 a1_5 = some (r1, r2, r3, r4)) :
    Calls Tryd.prog 65 #[.int .u8 a0, .agg #[.bool a1_0, .int .u64 a1_1, .int .u64 a1_2, .int .u64 a1_3, .int .u64 a1_4, .int .u64 a1_5]] w fun e w' => e = .returned (.tuple #[.agg #[.int .u8 r1, .int .i64 r2, .string r3], .int .i64 r4]) ∧ Below w.heap.size w w' := by
  have hu56 := Tryd.underlying56
  have hu25 := Tryd.underlying25
  have HB := Aside0.mk (Below.refl w.heap.size w)
  have H : ((chanceryref17_told.f a1_0 a1_1 a1_2 a1_3 a1_4 a1_5).bind fun bt381 => (if bt381.2 = true then (some (a0, bt381.1, (⟨#[]⟩ : ByteArray), 0)) else (some (0, 0, (⟨#[]⟩ : ByteArray), 271)))) = some (r1, r2, r3, r4) := h
  clear h
  replace H := Option.bind_eq_some_iff.mp H
  obtain ⟨⟨t381, t382⟩, A30, H⟩ := H
  replace H : (if t382 = true then (some (a0, t381, (⟨#[]⟩ : ByteArray), 0)) else (some (0, 0, (⟨#[]⟩ : ByteArray), 271))) = some (r1, r2, r3, r4) := H
  have A3 := Aside0.mk A30
  clear A30
  by_cases c4 : t382 = true
  · subst c4
    have H1 : (some (a0, t381, (⟨#[]⟩ : ByteArray), 0)) = some (r1, r2, r3, r4) := by rw [if_pos rfl] at H; exact H
    clear H
    have H := H1
    clear H1
    simp only [Option.some.injEq, Prod.mk.injEq] at H
    obtain ⟨rfl, rfl, rfl, rfl⟩ := H
    go_enter Tryd.func65, Tryd.ntmps65
    go_wp2_with (first | ((with_reducible refine gate_dst (N := 3) rfl ?_); refine box_event ?hg (N := 3) ?hd (cs := #[.bool a1_0, .int .u64 a1_1, .int .u64 a1_2, .int .u64 a1_3, .int .u64 a1_4, .int .u64 a1_5]) (t := 56) ?hr ?_; (case hd => rfl); (case hg => rfl); (case hr => first | (go_simp; done) | (go_simp; rfl)); intro gb379 hg w5 hbox hb; have n0_ := Aside0.mk (below_step (by repeat (first | (with_reducible first | exact HB.out | apply below_alloc | apply pw_below_drewN | apply below_drew1) | exact HB.out)) hb); have n1_ := Aside0.mk (hbox); have n2_ := Aside0.mk ((by rw [hg]; exact (below_size (by repeat (first | (with_reducible first | exact HB.out | apply below_alloc | apply pw_below_drewN | apply below_drew1) | exact HB.out))) : w.heap.size ≤ gb379)); have n3_ := Aside0.mk ((by rw [hg]; exact (below_size (by repeat (first | (with_reducible first | exact HB.out | apply below_alloc | apply pw_below_drewN | apply below_drew1) | exact HB.out))) : w.heap.size ≤ gb379)); clear HB; have HB := n0_; have BK379 := n1_; have GW379 := n2_; have GE379 := n3_; clear n0_ n1_ n2_ n3_; clear hb hbox hg) | ((with_reducible refine gate_dst (N := 4) rfl ?_); refine box_event ?hg (N := 4) ?hd (cs := #[.int .u8 0, .int .i64 0, .string (⟨#[]⟩ : ByteArray)]) (t := 25) ?hr ?_; (case hd => rfl); (case hg => rfl); (case hr => first | (go_simp; done) | (go_simp; rfl)); intro gb380 hg w6 hbox hb; have n0_ := Aside0.mk (blk_below (g := gb379) (o := .cells #[.bool a1_0, .int .u64 a1_1, .int .u64 a1_2, .int .u64 a1_3, .int .u64 a1_4, .int .u64 a1_5] 56 (0, 0)) (by (with_reducible repeat (first | refine blk_drewN ?_ _ | refine blk_drew ?_ | refine blk_alloc ?_ _)); exact BK379.out) hb); have n1_ := Aside0.mk (below_step (by repeat (first | (with_reducible first | exact HB.out | apply below_alloc | apply pw_below_drewN | apply below_drew1 | refine below_set ?_ GE379.out) | exact HB.out)) hb); have n2_ := Aside0.mk (hbox); have n3_ := Aside0.mk ((by rw [hg]; exact (below_size (by repeat (first | (with_reducible first | exact HB.out | apply below_alloc | apply pw_below_drewN | apply below_drew1 | refine below_set ?_ GE379.out) | exact HB.out))) : w.heap.size ≤ gb380)); have n4_ := Aside0.mk ((by rw [hg]; exact (below_size (by repeat (first | (with_reducible first | exact HB.out | apply below_alloc | apply pw_below_drewN | apply below_drew1 | refine below_set ?_ GE379.out) | exact HB.out))) : w.heap.size ≤ gb380)); have n5_ := Aside0.mk ((by rw [hg]; exact Nat.ne_of_lt (blk_lt (g := gb379) (o := .cells #[.bool a1_0, .int .u64 a1_1, .int .u64 a1_2, .int .u64 a1_3, .int .u64 a1_4, .int .u64 a1_5] 56 (0, 0)) (by (with_reducible repeat (first | refine blk_drewN ?_ _ | refine blk_drew ?_ | refine blk_alloc ?_ _)); exact BK379.out)) : gb379 ≠ gb380)); have n6_ := Aside0.mk ((by rw [hg]; exact Nat.ne_of_gt (blk_lt (g := gb379) (o := .cells #[.bool a1_0, .int .u64 a1_1, .int .u64 a1_2, .int .u64 a1_3, .int .u64 a1_4, .int .u64 a1_5] 56 (0, 0)) (by (with_reducible repeat (first | refine blk_drewN ?_ _ | refine blk_drew ?_ | refine blk_alloc ?_ _)); exact BK379.out)) : gb380 ≠ gb379)); clear BK379; clear HB; have BK379 := n0_; have HB := n1_; have BK380 := n2_; have GW380 := n3_; have GE380 := n4_; have NB379_380 := n5_; have NB380_379 := n6_; clear n0_ n1_ n2_ n3_ n4_ n5_ n6_; clear hb hbox hg; have hnb7 := NB379_380.out; have hnc7 := NB380_379.out; have hcz8_0 : w6.cell? ⟨gb379, 0, none⟩ = some (.bool a1_0) := (blk_cell BK379.out 0).trans rfl; have hcz8_1 : w6.cell? ⟨gb379, 1, none⟩ = some (.int .u64 a1_1) := (blk_cell BK379.out 1).trans rfl; have hcz8_2 : w6.cell? ⟨gb379, 2, none⟩ = some (.int .u64 a1_2) := (blk_cell BK379.out 2).trans rfl; have hcz8_3 : w6.cell? ⟨gb379, 3, none⟩ = some (.int .u64 a1_3) := (blk_cell BK379.out 3).trans rfl; have hcz8_4 : w6.cell? ⟨gb379, 4, none⟩ = some (.int .u64 a1_4) := (blk_cell BK379.out 4).trans rfl; have hcz8_5 : w6.cell? ⟨gb379, 5, none⟩ = some (.int .u64 a1_5) := (blk_cell BK379.out 5).trans rfl; have hfz8_0 := blk_frozen BK379.out 0; have hfz8_1 := blk_frozen BK379.out 1; have hfz8_2 := blk_frozen BK379.out 2; have hfz8_3 := blk_frozen BK379.out 3; have hfz8_4 := blk_frozen BK379.out 4; have hfz8_5 := blk_frozen BK379.out 5) | ((with_reducible refine gate_callee (f := 87) rfl ?_); refine goesL_ (some 10) rfl rfl Tryd.func87 (by kernel_rfl) rfl #[.agg #[.bool a1_0, .int .u64 a1_1, .int .u64 a1_2, .int .u64 a1_3, .int .u64 a1_4, .int .u64 a1_5]] rfl (by (try simp only [List.map_toArray, List.map_cons, List.map_nil]); first | done | rfl | (simp only [List.length_drop, List.length_take]; rfl)) ?_; (with_reducible refine (chanceryref17_told.calls a1_0 a1_1 a1_2 a1_3 a1_4 a1_5 t381 true _ A3.out).mono ?_); rintro e w9 ⟨rfl, hb⟩; refine ⟨_, rfl, ?_⟩; have n0_ := Aside0.mk (blk_below (g := gb379) (o := .cells #[.bool a1_0, .int .u64 a1_1, .int .u64 a1_2, .int .u64 a1_3, .int .u64 a1_4, .int .u64 a1_5] 56 (0, 0)) (by (with_reducible repeat (first | refine blk_drewN ?_ _ | refine blk_drew ?_ | refine blk_alloc ?_ _)); exact BK379.out) hb); have n1_ := Aside0.mk (blk_below (g := gb380) (o := .cells #[.int .u8 0, .int .i64 0, .string (⟨#[]⟩ : ByteArray)] 25 (0, 0)) (by (with_reducible repeat (first | refine blk_drewN ?_ _ | refine blk_drew ?_ | refine blk_alloc ?_ _)); exact BK380.out) hb); have n2_ := Aside0.mk (below_step (by repeat (first | (with_reducible first | exact HB.out | apply below_alloc | apply pw_below_drewN | apply below_drew1 | refine below_set ?_ GE379.out | refine below_set ?_ GE380.out) | exact HB.out)) hb); clear BK379; clear BK380; clear HB; have BK379 := n0_; have BK380 := n1_; have HB := n2_; clear n0_ n1_ n2_; (try clear hb); (try clear hb2); (try clear hk); (try clear hi); have hcz10_0 : w9.cell? ⟨gb380, 0, none⟩ = some (.int .u8 0) := (blk_cell BK380.out 0).trans rfl; have hcz10_1 : w9.cell? ⟨gb380, 1, none⟩ = some (.int .i64 0) := (blk_cell BK380.out 1).trans rfl; have hcz10_2 : w9.cell? ⟨gb380, 2, none⟩ = some (.string (⟨#[]⟩ : ByteArray)) := (blk_cell BK380.out 2).trans rfl; have hfz10_0 := blk_frozen BK380.out 0; have hfz10_1 := blk_frozen BK380.out 1; have hfz10_2 := blk_frozen BK380.out 2))
    refine bodyPost_ret (results_ct rfl _ _ gb380 25 #[.int .u8 a0, .int .i64 t381, .string (⟨#[]⟩ : ByteArray)] (0, 0) _ rfl (by (with_reducible repeat (first | refine blk_drewN ?_ _ | refine blk_drew ?_ | refine blk_alloc ?_ _)); refine blk_put (cs := #[.int .u8 a0, .int .i64 t381, .string (⟨#[]⟩ : ByteArray)]) ?_ 2 _ rfl; (with_reducible repeat (first | refine blk_drewN ?_ _ | refine blk_drew ?_ | refine blk_alloc ?_ _)); refine blk_put (cs := #[.int .u8 a0, .int .i64 0, .string (⟨#[]⟩ : ByteArray)]) ?_ 1 _ rfl; (with_reducible repeat (first | refine blk_drewN ?_ _ | refine blk_drew ?_ | refine blk_alloc ?_ _)); refine blk_put (cs := #[.int .u8 0, .int .i64 0, .string (⟨#[]⟩ : ByteArray)]) ?_ 0 _ rfl; (with_reducible repeat (first | refine blk_drewN ?_ _ | refine blk_drew ?_ | refine blk_alloc ?_ _)); exact BK380.out) Tryd.underlying25 rfl (by kernel_rfl)) rfl ?_
    exact ⟨by first | rfl | (simp [errW_none, errW_some] <;> rfl) | (simp [*, errW_none, errW_some] <;> rfl), by repeat (first | (with_reducible first | exact HB.out | apply below_alloc | apply pw_below_drewN | apply below_drew1 | refine below_set ?_ GE379.out | refine below_set ?_ GE380.out) | exact HB.out)⟩
  · replace c4 := Bool.eq_false_iff.mpr c4
    subst c4
    have H1 : (some (0, 0, (⟨#[]⟩ : ByteArray), 271)) = some (r1, r2, r3, r4) := by rw [if_neg (show ¬ (false = true) by decide)] at H; exact H
    clear H
    have H := H1
    clear H1
    simp only [Option.some.injEq, Prod.mk.injEq] at H
    obtain ⟨rfl, rfl, rfl, rfl⟩ := H
    go_enter Tryd.func65, Tryd.ntmps65
    go_wp2_with (first | ((with_reducible refine gate_dst (N := 3) rfl ?_); refine box_event ?hg (N := 3) ?hd (cs := #[.bool a1_0, .int .u64 a1_1, .int .u64 a1_2, .int .u64 a1_3, .int .u64 a1_4, .int .u64 a1_5]) (t := 56) ?hr ?_; (case hd => rfl); (case hg => rfl); (case hr => first | (go_simp; done) | (go_simp; rfl)); intro gb379 hg w11 hbox hb; have n0_ := Aside0.mk (below_step (by repeat (first | (with_reducible first | exact HB.out | apply below_alloc | apply pw_below_drewN | apply below_drew1) | exact HB.out)) hb); have n1_ := Aside0.mk (hbox); have n2_ := Aside0.mk ((by rw [hg]; exact (below_size (by repeat (first | (with_reducible first | exact HB.out | apply below_alloc | apply pw_below_drewN | apply below_drew1) | exact HB.out))) : w.heap.size ≤ gb379)); have n3_ := Aside0.mk ((by rw [hg]; exact (below_size (by repeat (first | (with_reducible first | exact HB.out | apply below_alloc | apply pw_below_drewN | apply below_drew1) | exact HB.out))) : w.heap.size ≤ gb379)); clear HB; have HB := n0_; have BK379 := n1_; have GW379 := n2_; have GE379 := n3_; clear n0_ n1_ n2_ n3_; clear hb hbox hg) | ((with_reducible refine gate_dst (N := 4) rfl ?_); refine box_event ?hg (N := 4) ?hd (cs := #[.int .u8 0, .int .i64 0, .string (⟨#[]⟩ : ByteArray)]) (t := 25) ?hr ?_; (case hd => rfl); (case hg => rfl); (case hr => first | (go_simp; done) | (go_simp; rfl)); intro gb380 hg w12 hbox hb; have n0_ := Aside0.mk (blk_below (g := gb379) (o := .cells #[.bool a1_0, .int .u64 a1_1, .int .u64 a1_2, .int .u64 a1_3, .int .u64 a1_4, .int .u64 a1_5] 56 (0, 0)) (by (with_reducible repeat (first | refine blk_drewN ?_ _ | refine blk_drew ?_ | refine blk_alloc ?_ _)); exact BK379.out) hb); have n1_ := Aside0.mk (below_step (by repeat (first | (with_reducible first | exact HB.out | apply below_alloc | apply pw_below_drewN | apply below_drew1 | refine below_set ?_ GE379.out) | exact HB.out)) hb); have n2_ := Aside0.mk (hbox); have n3_ := Aside0.mk ((by rw [hg]; exact (below_size (by repeat (first | (with_reducible first | exact HB.out | apply below_alloc | apply pw_below_drewN | apply below_drew1 | refine below_set ?_ GE379.out) | exact HB.out))) : w.heap.size ≤ gb380)); have n4_ := Aside0.mk ((by rw [hg]; exact (below_size (by repeat (first | (with_reducible first | exact HB.out | apply below_alloc | apply pw_below_drewN | apply below_drew1 | refine below_set ?_ GE379.out) | exact HB.out))) : w.heap.size ≤ gb380)); have n5_ := Aside0.mk ((by rw [hg]; exact Nat.ne_of_lt (blk_lt (g := gb379) (o := .cells #[.bool a1_0, .int .u64 a1_1, .int .u64 a1_2, .int .u64 a1_3, .int .u64 a1_4, .int .u64 a1_5] 56 (0, 0)) (by (with_reducible repeat (first | refine blk_drewN ?_ _ | refine blk_drew ?_ | refine blk_alloc ?_ _)); exact BK379.out)) : gb379 ≠ gb380)); have n6_ := Aside0.mk ((by rw [hg]; exact Nat.ne_of_gt (blk_lt (g := gb379) (o := .cells #[.bool a1_0, .int .u64 a1_1, .int .u64 a1_2, .int .u64 a1_3, .int .u64 a1_4, .int .u64 a1_5] 56 (0, 0)) (by (with_reducible repeat (first | refine blk_drewN ?_ _ | refine blk_drew ?_ | refine blk_alloc ?_ _)); exact BK379.out)) : gb380 ≠ gb379)); clear BK379; clear HB; have BK379 := n0_; have HB := n1_; have BK380 := n2_; have GW380 := n3_; have GE380 := n4_; have NB379_380 := n5_; have NB380_379 := n6_; clear n0_ n1_ n2_ n3_ n4_ n5_ n6_; clear hb hbox hg; have hnb13 := NB379_380.out; have hnc13 := NB380_379.out; have hcz14_0 : w12.cell? ⟨gb379, 0, none⟩ = some (.bool a1_0) := (blk_cell BK379.out 0).trans rfl; have hcz14_1 : w12.cell? ⟨gb379, 1, none⟩ = some (.int .u64 a1_1) := (blk_cell BK379.out 1).trans rfl; have hcz14_2 : w12.cell? ⟨gb379, 2, none⟩ = some (.int .u64 a1_2) := (blk_cell BK379.out 2).trans rfl; have hcz14_3 : w12.cell? ⟨gb379, 3, none⟩ = some (.int .u64 a1_3) := (blk_cell BK379.out 3).trans rfl; have hcz14_4 : w12.cell? ⟨gb379, 4, none⟩ = some (.int .u64 a1_4) := (blk_cell BK379.out 4).trans rfl; have hcz14_5 : w12.cell? ⟨gb379, 5, none⟩ = some (.int .u64 a1_5) := (blk_cell BK379.out 5).trans rfl; have hfz14_0 := blk_frozen BK379.out 0; have hfz14_1 := blk_frozen BK379.out 1; have hfz14_2 := blk_frozen BK379.out 2; have hfz14_3 := blk_frozen BK379.out 3; have hfz14_4 := blk_frozen BK379.out 4; have hfz14_5 := blk_frozen BK379.out 5) | ((with_reducible refine gate_callee (f := 87) rfl ?_); refine goesL_ (some 10) rfl rfl Tryd.func87 (by kernel_rfl) rfl #[.agg #[.bool a1_0, .int .u64 a1_1, .int .u64 a1_2, .int .u64 a1_3, .int .u64 a1_4, .int .u64 a1_5]] rfl (by (try simp only [List.map_toArray, List.map_cons, List.map_nil]); first | done | rfl | (simp only [List.length_drop, List.length_take]; rfl)) ?_; (with_reducible refine (chanceryref17_told.calls a1_0 a1_1 a1_2 a1_3 a1_4 a1_5 t381 false _ A3.out).mono ?_); rintro e w15 ⟨rfl, hb⟩; refine ⟨_, rfl, ?_⟩; have n0_ := Aside0.mk (blk_below (g := gb379) (o := .cells #[.bool a1_0, .int .u64 a1_1, .int .u64 a1_2, .int .u64 a1_3, .int .u64 a1_4, .int .u64 a1_5] 56 (0, 0)) (by (with_reducible repeat (first | refine blk_drewN ?_ _ | refine blk_drew ?_ | refine blk_alloc ?_ _)); exact BK379.out) hb); have n1_ := Aside0.mk (blk_below (g := gb380) (o := .cells #[.int .u8 0, .int .i64 0, .string (⟨#[]⟩ : ByteArray)] 25 (0, 0)) (by (with_reducible repeat (first | refine blk_drewN ?_ _ | refine blk_drew ?_ | refine blk_alloc ?_ _)); exact BK380.out) hb); have n2_ := Aside0.mk (below_step (by repeat (first | (with_reducible first | exact HB.out | apply below_alloc | apply pw_below_drewN | apply below_drew1 | refine below_set ?_ GE379.out | refine below_set ?_ GE380.out) | exact HB.out)) hb); clear BK379; clear BK380; clear HB; have BK379 := n0_; have BK380 := n1_; have HB := n2_; clear n0_ n1_ n2_; (try clear hb); (try clear hb2); (try clear hk); (try clear hi); have hcz16_0 : w15.cell? ⟨gb380, 0, none⟩ = some (.int .u8 0) := (blk_cell BK380.out 0).trans rfl; have hcz16_1 : w15.cell? ⟨gb380, 1, none⟩ = some (.int .i64 0) := (blk_cell BK380.out 1).trans rfl; have hcz16_2 : w15.cell? ⟨gb380, 2, none⟩ = some (.string (⟨#[]⟩ : ByteArray)) := (blk_cell BK380.out 2).trans rfl; have hfz16_0 := blk_frozen BK380.out 0; have hfz16_1 := blk_frozen BK380.out 1; have hfz16_2 := blk_frozen BK380.out 2))
    refine bodyPost_ret (results_ct rfl _ _ gb380 25 #[.int .u8 0, .int .i64 0, .string (⟨#[]⟩ : ByteArray)] (0, 0) _ rfl (by (with_reducible repeat (first | refine blk_drewN ?_ _ | refine blk_drew ?_ | refine blk_alloc ?_ _)); refine blk_put (cs := #[.int .u8 0, .int .i64 0, .string (⟨#[]⟩ : ByteArray)]) ?_ 2 _ rfl; (with_reducible repeat (first | refine blk_drewN ?_ _ | refine blk_drew ?_ | refine blk_alloc ?_ _)); refine blk_put (cs := #[.int .u8 0, .int .i64 0, .string (⟨#[]⟩ : ByteArray)]) ?_ 1 _ rfl; (with_reducible repeat (first | refine blk_drewN ?_ _ | refine blk_drew ?_ | refine blk_alloc ?_ _)); refine blk_put (cs := #[.int .u8 0, .int .i64 0, .string (⟨#[]⟩ : ByteArray)]) ?_ 0 _ rfl; (with_reducible repeat (first | refine blk_drewN ?_ _ | refine blk_drew ?_ | refine blk_alloc ?_ _)); exact BK380.out) Tryd.underlying25 rfl (by kernel_rfl)) rfl ?_
    exact ⟨by first | rfl | (simp [errW_none, errW_some] <;> rfl) | (simp [*, errW_none, errW_some] <;> rfl), by repeat (first | (with_reducible first | exact HB.out | apply below_alloc | apply pw_below_drewN | apply below_drew1 | refine below_set ?_ GE379.out | refine below_set ?_ GE380.out) | exact HB.out)⟩
end Go.Proofs.YtbodlnoipkommaaDoor.Q
namespace Go.Proofs.YtbodlnoipkommaaDoor.Ph
open Go Go.RowKit Go.Proofs.YtbodlnoipkommaaDoor.Q Go.Proofs.YtbodlnoipkommaaDoor.Ra Go.Proofs.YtbodlnoipkommaaDoor.Rb Go.Proofs.YtbodlnoipkommaaDoor.Rc Go.Proofs.YtbodlnoipkommaaDoor.Rd Go.Proofs.YtbodlnoipkommaaDoor.Wh Go.Proofs.YtbodlnoipkommaaDoor.Wk Go.Proofs.YtbodlnoipkommaaDoor.Wp Go.Proofs.YtbodlnoipkommaaDoor.Pa Go.Proofs.YtbodlnoipkommaaDoor.Pb Go.Proofs.YtbodlnoipkommaaDoor.Pc Go.Proofs.YtbodlnoipkommaaDoorW.PrintWords Go.Proofs.YtbodlnoipkommaaDoorW.PrintLast Go.Proofs.YtbodlnoipkommaaDoorW.PrintMore
def B (s : Bool) (m : Int) : Bool × Int × Int × Int × Int × Int := (s, d0 m, d1 m, d2 m, d3 m, d4 m)
def Sz (m : Int) : Prop := 0 ≤ m ∧ m < 1461501637330902918203684832716283019655932542976
def vl (s : Bool) (m : Int) : Int := if s = true then -m else m
theorem digs (m : Int) : Digs (d0 m) (d1 m) (d2 m) (d3 m) (d4 m) := by
  unfold Digs Dig d0 d1 d2 d3 d4
  refine ⟨⟨?_, ?_⟩, ⟨?_, ?_⟩, ⟨?_, ?_⟩, ⟨?_, ?_⟩, ?_, ?_⟩ <;> omega
theorem num_d (m : Int) (h : Sz m) : num (d0 m) (d1 m) (d2 m) (d3 m) (d4 m) = m := by
  obtain ⟨h0, h1⟩ := h
  unfold num d0 d1 d2 d3 d4
  omega
theorem toldB (s : Bool) (m : Int) (hm : Sz m) : chanceryref17_told.f s (d0 m) (d1 m) (d2 m) (d3 m) (d4 m) = some (if I64 (vl s m) then (vl s m, true) else (0, false)) := by
  unfold chanceryref17_told.f
  rw [if_pos (digs m), num_d m hm]
  obtain ⟨h0, h1⟩ := hm
  congr 1
  unfold vl
  by_cases h : m < 9223372036854775808
  · rw [if_pos h]
    cases s <;> simp only [Bool.false_eq_true, if_false, if_true]
    · rw [if_pos (show I64 m from ⟨by omega, by omega⟩)]
    · rw [if_pos (show I64 (-m) from ⟨by omega, by omega⟩)]
  · rw [if_neg h]
    cases s <;> simp only [Bool.false_eq_true, if_false, if_true, and_false, and_true]
    · rw [if_neg (show ¬ I64 m from fun c => by have := c.2; omega)]
    · by_cases e : m = 9223372036854775808
      · subst e; rfl
      · rw [if_neg e, if_neg (show ¬ I64 (-m) from fun c => by have := c.1; omega)]
theorem bigB (n : Int) (h : I64 n) : chanceryref17_big.f n = some (B (decide (n < 0)) (absI n)) := by
  obtain ⟨h0, h1⟩ := h
  unfold chanceryref17_big.f
  have e : (n.natAbs : Int) = absI n := by unfold absI; omega
  rw [if_pos ⟨h0, by omega⟩, e]; rfl
theorem timesB (s : Bool) (a : Int) (t : Bool) (b : Int) (ha : 0 ≤ a ∧ a < 18446744073709551616) (hb : 0 ≤ b ∧ b < 18446744073709551616) :
    chanceryref17_times.f s (d0 a) (d1 a) (d2 a) (d3 a) (d4 a) t (d0 b) (d1 b) (d2 b) (d3 b) (d4 b) = some (B (s != t) (a * b)) := by
  unfold chanceryref17_times.f
  have z : ∀ x : Int, 0 ≤ x ∧ x < 18446744073709551616 → d2 x = 0 ∧ d3 x = 0 ∧ d4 x = 0 := by
    intro x hx
    unfold d2 d3 d4
    omega
  rw [if_pos ⟨digs a, digs b, z a ha, z b hb⟩, num_d a ⟨ha.1, by omega⟩, num_d b ⟨hb.1, by omega⟩]; rfl
theorem abs64 (n : Int) (h : I64 n) : 0 ≤ absI n ∧ absI n ≤ 9223372036854775808 := by
  obtain ⟨h0, h1⟩ := h
  unfold absI; split <;> omega
theorem vl_abs (z : Int) : vl (decide (z < 0)) (absI z) = z := by
  unfold vl absI
  by_cases h : z < 0
  · rw [if_pos (by simpa using h), if_pos h]; omega
  · rw [if_neg (by simpa using h), if_neg h]
theorem fixedB (k n : Int) (s : ByteArray) (h : I64 n) : chanceryref17_fixed.f k n s = some (B (decide (fixV k n < 0)) (absI (fixV k n))) := by
  unfold chanceryref17_fixed.f fixV
  rw [bigB n h, bigB 10000 (by decide)]
  by_cases hk : k = 2
  · rw [if_pos hk, if_pos hk]
    simp only [Option.bind_some, B]
    have h4 := abs64 n h
    rw [timesB _ _ _ _ ⟨h4.1, by omega⟩ (by decide)]
    simp only [Option.bind_some, B]
    have e : absI n * absI 10000 = absI (n * 10000) := by
      rw [show absI 10000 = 10000 from rfl]; unfold absI; split <;> split <;> omega
    have e' : (decide (n < 0) != decide ((10000 : Int) < 0)) = decide (n * 10000 < 0) := by
      rw [show decide ((10000 : Int) < 0) = false from rfl, show ∀ x : Bool, (x != false) = x by decide]
      apply decide_eq_decide.2; omega
    rw [e, e']
  · rw [if_neg hk, if_neg hk]
    simp only [Option.bind_some, B]
theorem fix_abs (k n : Int) (h : I64 n) : 0 ≤ absI (fixV k n) ∧ absI (fixV k n) ≤ 92233720368547758080000 := by
  obtain ⟨h0, h1⟩ := h
  unfold absI fixV; split <;> split <;> omega
theorem answerB (k : Int) (s : Bool) (m : Int) (hm : Sz m) : chanceryref17_answer.f k s (d0 m) (d1 m) (d2 m) (d3 m) (d4 m) = some (toldR k (vl s m)) := by
  unfold chanceryref17_answer.f
  rw [toldB s m hm]
  simp only [Option.bind_some]
  unfold toldR
  by_cases h : I64 (vl s m)
  · rw [if_pos h, if_pos h, if_pos rfl]
  · rw [if_neg h, if_neg h, if_neg (by decide)]
theorem ref_right (j : Nat) (k n : Int) (s : ByteArray) : chanceryref17_Right.f (j + 1) k n s = some (rightB k n s) := by
  unfold chanceryref17_Right.f rightB
  by_cases h0 : k = 0
  · by_cases hn : n = 0 <;> simp [h0, hn]
  by_cases h1 : k = 1
  · by_cases hs : s.toList = ([] : List UInt8)
    · have e : (n / 2 = 0) ↔ (n = 0 ∨ n = 1) := by omega
      by_cases hn : n = 0
      · simp [h1, hs, hn]
      · by_cases hn1 : n = 1
        · simp [h1, hs, hn1]
        · have : ¬ (n / 2 = 0) := by omega
          simp [h1, hs, hn]
          rw [beq_false_of_ne hn1, beq_false_of_ne this]
    · simp [h1, hs]
  by_cases h2 : k = 2
  · simp [h2, chanceryref17_Right.j0]
  by_cases h3 : k = 3
  · simp [h3, chanceryref17_Right.j0]
  by_cases h4 : k = 4
  · by_cases hn : n = 0 <;> simp [h4, hn, chanceryref17_Right.j0]
  by_cases h5 : k = 5
  · by_cases hn : n = 0 <;> simp [h5, hn, chanceryref17_Right.j0]
  simp [h0, h1, h2, h3, h4, h5, chanceryref17_Right.j0]
end Go.Proofs.YtbodlnoipkommaaDoor.Ph
namespace Go.Proofs.YtbodlnoipkommaaDoor.Q
open Go.Proofs.YtbodlnoipkommaaDoor.We Go.Proofs.YtbodlnoipkommaaDoor.Wj
open Go.RowKit Go.Proofs.YtbodlnoipkommaaDoorW.PrintWords Go.Proofs.YtbodlnoipkommaaDoorW.PrintLast Go.Proofs.YtbodlnoipkommaaDoorW.PrintMore
attribute [local go_sem] max2_int min2_int max_two min_two max_three min_three max_four min_four   -- for this text's walks alone
set_option linter.unusedVariables false
set_option linter.unusedSimpArgs false
end Go.Proofs.YtbodlnoipkommaaDoor.Q
namespace Go.Proofs.YtbodlnoipkommaaDoor.Q
open Go.Proofs.YtbodlnoipkommaaDoor.Rc
open Go.RowKit Go.Proofs.YtbodlnoipkommaaDoorW.PrintWords Go.Proofs.YtbodlnoipkommaaDoorW.PrintLast Go.Proofs.YtbodlnoipkommaaDoorW.PrintMore
attribute [local go_sem] max2_int min2_int max_two min_two max_three min_three max_four min_four   -- for this text's walks alone
set_option linter.unusedVariables false
set_option linter.unusedSimpArgs false
end Go.Proofs.YtbodlnoipkommaaDoor.Q
namespace Go.Proofs.YtbodlnoipkommaaDoor.Q
open Go.Proofs.YtbodlnoipkommaaDoor.Rb Go.Proofs.YtbodlnoipkommaaDoor.Rc Go.Proofs.YtbodlnoipkommaaDoor.Rd
open Go.RowKit Go.Proofs.YtbodlnoipkommaaDoorW.PrintWords Go.Proofs.YtbodlnoipkommaaDoorW.PrintLast Go.Proofs.YtbodlnoipkommaaDoorW.PrintMore
attribute [local go_sem] max2_int min2_int max_two min_two max_three min_three max_four min_four   -- for this text's walks alone
set_option linter.unusedVariables false
set_option linter.unusedSimpArgs false
end Go.Proofs.YtbodlnoipkommaaDoor.Q
namespace Go.Proofs.YtbodlnoipkommaaDoor.Q
open Go.Proofs.YtbodlnoipkommaaDoor.Rc
open Go.RowKit Go.Proofs.YtbodlnoipkommaaDoorW.PrintWords Go.Proofs.YtbodlnoipkommaaDoorW.PrintLast Go.Proofs.YtbodlnoipkommaaDoorW.PrintMore
attribute [local go_sem] max2_int min2_int max_two min_two max_three min_three max_four min_four   -- for this text's walks alone
set_option linter.unusedVariables false
set_option linter.unusedSimpArgs false
end Go.Proofs.YtbodlnoipkommaaDoor.Q

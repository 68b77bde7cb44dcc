/- Merged out of this session's texts: Rd, Rc, Qxf46 -/
import Derived.Test.YtbodlnoipkommaaDoorProg
import Derived.Test.YtbodlnoipkommaaDoorZr1
import Derived.WalkKit
import Derived.WalkSpells
import Derived.StillTactics
import Derived.Laws.Pointers
import Derived.RowKit3
import Derived.LoopN
import Derived.Deep.QuietTactic
import Derived.BigQuiet
import Derived.Test.YtbodlnoipkommaaDoorZr5
import Derived.Test.YtbodlnoipkommaaDoorZr3
set_option linter.unusedVariables false
set_option linter.unusedSimpArgs false
namespace Go.Proofs.YtbodlnoipkommaaDoor.Rd
open Go.Proofs.YtbodlnoipkommaaDoor.Ra Go.Proofs.YtbodlnoipkommaaDoor.Rb
open Go.RowKit Go.Proofs.YtbodlnoipkommaaDoorW.PrintWords Go.Proofs.YtbodlnoipkommaaDoorW.PrintLast Go.Proofs.YtbodlnoipkommaaDoorW.PrintMore
def St (w : World) (s z : Bool) (a0 a1 b0 b1 r0 r1 r2 r3 r4 : Int) (W : World) : Prop :=
  Below w.heap.size w W ∧ W.heap[w.heap.size]? = some (.cells #[.bool s, .int .u64 a0, .int .u64 a1, .int .u64 0, .int .u64 0, .int .u64 0] 56 (0, 0))
  ∧ W.heap[w.heap.size + 1]? = some (.cells #[.bool z, .int .u64 b0, .int .u64 b1, .int .u64 0, .int .u64 0, .int .u64 0] 56 (0, 0))
  ∧ W.heap[w.heap.size + 2]? = some (.cells #[.bool false, .int .u64 0, .int .u64 0, .int .u64 0, .int .u64 0, .int .u64 0] 56 (0, 0))
  ∧ W.heap[w.heap.size + 3]? = some (.cells #[.int .u64 r0, .int .u64 r1, .int .u64 r2, .int .u64 r3, .int .u64 r4] 54 (0, 0))
variable {w W : World} {s z : Bool} {a0 a1 b0 b1 r0 r1 r2 r3 r4 : Int}
theorem St.drew (h : St w s z a0 a1 b0 b1 r0 r1 r2 r3 r4 W) (n : Nat) : St w s z a0 a1 b0 b1 r0 r1 r2 r3 r4 (W.drewN n) := ⟨drew_ok h.1 n, h.2.1, h.2.2.1, h.2.2.2.1, h.2.2.2.2⟩
theorem heap_other (W : World) (b o k : Nat) (v : Value) (h : k ≠ b) : (W.setCell ⟨b, o, none⟩ v).heap[k]? = W.heap[k]? := Below.heap_setCell W ⟨b, o, none⟩ v k h
theorem heap_same (W : World) (b o : Nat) (v : Value) (cs : Array Value) (t : TypeId) (h : W.heap[b]? = some (.cells cs t (0, 0))) : (W.setCell ⟨b, o, none⟩ v).heap[b]? = some (.cells (cs.setIfInBounds o v) t (0, 0)) := by
  unfold World.setCell
  simp [Array.getElem?_modify, h]
theorem St.set0 (h : St w s z a0 a1 b0 b1 r0 r1 r2 r3 r4 W) (x : Int) : St w s z a0 a1 b0 b1 x r1 r2 r3 r4 (W.setCell ⟨w.heap.size + 1 + 1 + 1, 0, none⟩ (.int .u64 x)) :=
  ⟨set_ok h.1 (by omega) _, (heap_other W _ _ _ _ (by omega)).trans h.2.1, (heap_other W _ _ _ _ (by omega)).trans h.2.2.1, (heap_other W _ _ _ _ (by omega)).trans h.2.2.2.1, heap_same W _ _ _ _ _ h.2.2.2.2⟩
theorem St.set1 (h : St w s z a0 a1 b0 b1 r0 r1 r2 r3 r4 W) (x : Int) : St w s z a0 a1 b0 b1 r0 x r2 r3 r4 (W.setCell ⟨w.heap.size + 1 + 1 + 1, 1, none⟩ (.int .u64 x)) :=
  ⟨set_ok h.1 (by omega) _, (heap_other W _ _ _ _ (by omega)).trans h.2.1, (heap_other W _ _ _ _ (by omega)).trans h.2.2.1, (heap_other W _ _ _ _ (by omega)).trans h.2.2.2.1, heap_same W _ _ _ _ _ h.2.2.2.2⟩
theorem St.set2 (h : St w s z a0 a1 b0 b1 r0 r1 r2 r3 r4 W) (x : Int) : St w s z a0 a1 b0 b1 r0 r1 x r3 r4 (W.setCell ⟨w.heap.size + 1 + 1 + 1, 2, none⟩ (.int .u64 x)) :=
  ⟨set_ok h.1 (by omega) _, (heap_other W _ _ _ _ (by omega)).trans h.2.1, (heap_other W _ _ _ _ (by omega)).trans h.2.2.1, (heap_other W _ _ _ _ (by omega)).trans h.2.2.2.1, heap_same W _ _ _ _ _ h.2.2.2.2⟩
theorem St.set3 (h : St w s z a0 a1 b0 b1 r0 r1 r2 r3 r4 W) (x : Int) : St w s z a0 a1 b0 b1 r0 r1 r2 x r4 (W.setCell ⟨w.heap.size + 1 + 1 + 1, 3, none⟩ (.int .u64 x)) :=
  ⟨set_ok h.1 (by omega) _, (heap_other W _ _ _ _ (by omega)).trans h.2.1, (heap_other W _ _ _ _ (by omega)).trans h.2.2.1, (heap_other W _ _ _ _ (by omega)).trans h.2.2.2.1, heap_same W _ _ _ _ _ h.2.2.2.2⟩
theorem St.set4 (h : St w s z a0 a1 b0 b1 r0 r1 r2 r3 r4 W) (x : Int) : St w s z a0 a1 b0 b1 r0 r1 r2 r3 x (W.setCell ⟨w.heap.size + 1 + 1 + 1, 4, none⟩ (.int .u64 x)) :=
  ⟨set_ok h.1 (by omega) _, (heap_other W _ _ _ _ (by omega)).trans h.2.1, (heap_other W _ _ _ _ (by omega)).trans h.2.2.1, (heap_other W _ _ _ _ (by omega)).trans h.2.2.2.1, heap_same W _ _ _ _ _ h.2.2.2.2⟩
theorem St.start (w : World) (s z : Bool) (a0 a1 b0 b1 : Int) : St w s z a0 a1 b0 b1 0 0 0 0 0 ((((w.alloc (.cells #[.bool s, .int .u64 a0, .int .u64 a1, .int .u64 0, .int .u64 0, .int .u64 0] 56)).alloc (.cells #[.bool z, .int .u64 b0, .int .u64 b1, .int .u64 0, .int .u64 0, .int .u64 0] 56)).alloc (.cells #[.bool false, .int .u64 0, .int .u64 0, .int .u64 0, .int .u64 0, .int .u64 0] 56)).alloc (.cells #[.int .u64 0, .int .u64 0, .int .u64 0, .int .u64 0, .int .u64 0] 54)) := by
  have e (w : World) (o : Obj) : (w.alloc o).heap.size = w.heap.size + 1 := Array.size_push _
  refine ⟨below_alloc (below_alloc (below_alloc (below_alloc (Below.refl _ _) _) _) _) _, blk_alloc (blk_alloc (blk_alloc (blk_new w _) _) _) _, ?_, ?_, ?_⟩
  · have h := blk_alloc (blk_alloc (blk_new (w.alloc (.cells #[.bool s, .int .u64 a0, .int .u64 a1, .int .u64 0, .int .u64 0, .int .u64 0] 56)) (.cells #[.bool z, .int .u64 b0, .int .u64 b1, .int .u64 0, .int .u64 0, .int .u64 0] 56)) (.cells #[.bool false, .int .u64 0, .int .u64 0, .int .u64 0, .int .u64 0, .int .u64 0] 56)) (.cells #[.int .u64 0, .int .u64 0, .int .u64 0, .int .u64 0, .int .u64 0] 54)
    rwa [e] at h
  · have h := blk_alloc (blk_new ((w.alloc (.cells #[.bool s, .int .u64 a0, .int .u64 a1, .int .u64 0, .int .u64 0, .int .u64 0] 56)).alloc (.cells #[.bool z, .int .u64 b0, .int .u64 b1, .int .u64 0, .int .u64 0, .int .u64 0] 56)) (.cells #[.bool false, .int .u64 0, .int .u64 0, .int .u64 0, .int .u64 0, .int .u64 0] 56)) (.cells #[.int .u64 0, .int .u64 0, .int .u64 0, .int .u64 0, .int .u64 0] 54)
    rwa [e, e] at h
  · have h := blk_new (((w.alloc (.cells #[.bool s, .int .u64 a0, .int .u64 a1, .int .u64 0, .int .u64 0, .int .u64 0] 56)).alloc (.cells #[.bool z, .int .u64 b0, .int .u64 b1, .int .u64 0, .int .u64 0, .int .u64 0] 56)).alloc (.cells #[.bool false, .int .u64 0, .int .u64 0, .int .u64 0, .int .u64 0, .int .u64 0] 56)) (.cells #[.int .u64 0, .int .u64 0, .int .u64 0, .int .u64 0, .int .u64 0] 54)
    rwa [e, e, e] at h
theorem cutw {G : Act → World → Prop} {a : Act} {W : World} (S : World → Prop) (h : S W) (k : ∀ W', S W' → G a W') : G a W := k W h
theorem St.facts (h : St w s z a0 a1 b0 b1 r0 r1 r2 r3 r4 W) : W.cell? ⟨w.heap.size, 0, none⟩ = some (.bool s) ∧ W.cell? ⟨w.heap.size, 1, none⟩ = some (.int .u64 a0) ∧ W.cell? ⟨w.heap.size, 2, none⟩ = some (.int .u64 a1) ∧ W.cell? ⟨w.heap.size, 3, none⟩ = some (.int .u64 0) ∧ W.cell? ⟨w.heap.size, 4, none⟩ = some (.int .u64 0) ∧ W.cell? ⟨w.heap.size, 5, none⟩ = some (.int .u64 0) ∧ W.cell? ⟨w.heap.size + 1, 0, none⟩ = some (.bool z) ∧ W.cell? ⟨w.heap.size + 1, 1, none⟩ = some (.int .u64 b0) ∧ W.cell? ⟨w.heap.size + 1, 2, none⟩ = some (.int .u64 b1) ∧ W.cell? ⟨w.heap.size + 1, 3, none⟩ = some (.int .u64 0) ∧ W.cell? ⟨w.heap.size + 1, 4, none⟩ = some (.int .u64 0) ∧ W.cell? ⟨w.heap.size + 1, 5, none⟩ = some (.int .u64 0) ∧ W.cell? ⟨w.heap.size + 1 + 1, 0, none⟩ = some (.bool false) ∧ W.cell? ⟨w.heap.size + 1 + 1, 1, none⟩ = some (.int .u64 0) ∧ W.cell? ⟨w.heap.size + 1 + 1, 2, none⟩ = some (.int .u64 0) ∧ W.cell? ⟨w.heap.size + 1 + 1, 3, none⟩ = some (.int .u64 0) ∧ W.cell? ⟨w.heap.size + 1 + 1, 4, none⟩ = some (.int .u64 0) ∧ W.cell? ⟨w.heap.size + 1 + 1, 5, none⟩ = some (.int .u64 0) ∧ W.cell? ⟨w.heap.size + 1 + 1 + 1, 0, none⟩ = some (.int .u64 r0) ∧ W.cell? ⟨w.heap.size + 1 + 1 + 1, 1, none⟩ = some (.int .u64 r1) ∧ W.cell? ⟨w.heap.size + 1 + 1 + 1, 2, none⟩ = some (.int .u64 r2) ∧ W.cell? ⟨w.heap.size + 1 + 1 + 1, 3, none⟩ = some (.int .u64 r3) ∧ W.cell? ⟨w.heap.size + 1 + 1 + 1, 4, none⟩ = some (.int .u64 r4) ∧ W.frozen? ⟨w.heap.size + 1 + 1, 0, none⟩ = false ∧ W.frozen? ⟨w.heap.size + 1 + 1, 1, none⟩ = false ∧ W.frozen? ⟨w.heap.size + 1 + 1, 2, none⟩ = false ∧ W.frozen? ⟨w.heap.size + 1 + 1, 3, none⟩ = false ∧ W.frozen? ⟨w.heap.size + 1 + 1, 4, none⟩ = false ∧ W.frozen? ⟨w.heap.size + 1 + 1, 5, none⟩ = false ∧ W.frozen? ⟨w.heap.size + 1 + 1 + 1, 0, none⟩ = false ∧ W.frozen? ⟨w.heap.size + 1 + 1 + 1, 1, none⟩ = false ∧ W.frozen? ⟨w.heap.size + 1 + 1 + 1, 2, none⟩ = false ∧ W.frozen? ⟨w.heap.size + 1 + 1 + 1, 3, none⟩ = false ∧ W.frozen? ⟨w.heap.size + 1 + 1 + 1, 4, none⟩ = false := by
  obtain ⟨-, h0, h1, h2, h3⟩ := h
  refine ⟨?_, ?_, ?_, ?_, ?_, ?_, ?_, ?_, ?_, ?_, ?_, ?_, ?_, ?_, ?_, ?_, ?_, ?_, ?_, ?_, ?_, ?_, ?_, ?_, ?_, ?_, ?_, ?_, ?_, ?_, ?_, ?_, ?_, ?_⟩
  · exact (blk_cell h0 _).trans rfl
  · exact (blk_cell h0 _).trans rfl
  · exact (blk_cell h0 _).trans rfl
  · exact (blk_cell h0 _).trans rfl
  · exact (blk_cell h0 _).trans rfl
  · exact (blk_cell h0 _).trans rfl
  · exact (blk_cell h1 _).trans rfl
  · exact (blk_cell h1 _).trans rfl
  · exact (blk_cell h1 _).trans rfl
  · exact (blk_cell h1 _).trans rfl
  · exact (blk_cell h1 _).trans rfl
  · exact (blk_cell h1 _).trans rfl
  · exact (blk_cell h2 _).trans rfl
  · exact (blk_cell h2 _).trans rfl
  · exact (blk_cell h2 _).trans rfl
  · exact (blk_cell h2 _).trans rfl
  · exact (blk_cell h2 _).trans rfl
  · exact (blk_cell h2 _).trans rfl
  · exact (blk_cell h3 _).trans rfl
  · exact (blk_cell h3 _).trans rfl
  · exact (blk_cell h3 _).trans rfl
  · exact (blk_cell h3 _).trans rfl
  · exact (blk_cell h3 _).trans rfl
  · simp [World.frozen?, h2]
  · simp [World.frozen?, h2]
  · simp [World.frozen?, h2]
  · simp [World.frozen?, h2]
  · simp [World.frozen?, h2]
  · simp [World.frozen?, h2]
  · simp [World.frozen?, h3]
  · simp [World.frozen?, h3]
  · simp [World.frozen?, h3]
  · simp [World.frozen?, h3]
  · simp [World.frozen?, h3]
set_option maxRecDepth 100000 in
set_option maxHeartbeats 2000000 in
theorem times_walk (s z : Bool) (a0 a1 b0 b1 p00 q00 h00 p01 q01 h01 x2 y2 r2 c2 p10 q10 h10 x4 y4 r4 c4 p11 q11 h11 x5 y5 r5 c5 : Int) (w : World) (la0 : 0 ≤ a0) (ua0 : a0 < 4294967296) (la1 : 0 ≤ a1) (ua1 : a1 < 4294967296) (lb0 : 0 ≤ b0) (ub0 : b0 < 4294967296) (lb1 : 0 ≤ b1) (ub1 : b1 < 4294967296) (ep00 : a0 * b0 = p00) (lp00 : 0 ≤ p00) (up00 : p00 < 18446744073709551616) (eq00 : p00 / 4294967296 = q00) (eh00 : p00 % 4294967296 = h00) (lq00 : 0 ≤ q00) (uq00 : q00 < 4294967296) (lh00 : 0 ≤ h00) (uh00 : h00 < 4294967296) (em_h00 : h00 % 4294967296 = h00) (ed_h00 : h00 / 4294967296 = 0) (ep01 : a0 * b1 = p01) (lp01 : 0 ≤ p01) (up01 : p01 < 18446744073709551616) (eq01 : p01 / 4294967296 = q01) (eh01 : p01 % 4294967296 = h01) (lq01 : 0 ≤ q01) (uq01 : q01 < 4294967296) (lh01 : 0 ≤ h01) (uh01 : h01 < 4294967296) (ex2 : h01 + q00 = x2) (lx2 : 0 ≤ x2) (ux2 : x2 < 18446744073709551616) (ey2 : x2 / 4294967296 = y2) (er2 : x2 % 4294967296 = r2) (ly2 : 0 ≤ y2) (uy2 : y2 < 4294967296) (lr2 : 0 ≤ r2) (ur2 : r2 < 4294967296) (ec2 : q01 + y2 = c2) (lc2 : 0 ≤ c2) (uc2 : c2 < 4294967296) (em_c2 : c2 % 4294967296 = c2) (ed_c2 : c2 / 4294967296 = 0) (ep10 : a1 * b0 = p10) (lp10 : 0 ≤ p10) (up10 : p10 < 18446744073709551616) (eq10 : p10 / 4294967296 = q10) (eh10 : p10 % 4294967296 = h10) (lq10 : 0 ≤ q10) (uq10 : q10 < 4294967296) (lh10 : 0 ≤ h10) (uh10 : h10 < 4294967296) (ex4 : r2 + h10 = x4) (lx4 : 0 ≤ x4) (ux4 : x4 < 18446744073709551616) (ey4 : x4 / 4294967296 = y4) (er4 : x4 % 4294967296 = r4) (ly4 : 0 ≤ y4) (uy4 : y4 < 4294967296) (lr4 : 0 ≤ r4) (ur4 : r4 < 4294967296) (ec4 : q10 + y4 = c4) (lc4 : 0 ≤ c4) (uc4 : c4 < 4294967296) (ep11 : a1 * b1 = p11) (lp11 : 0 ≤ p11) (up11 : p11 < 18446744073709551616) (eq11 : p11 / 4294967296 = q11) (eh11 : p11 % 4294967296 = h11) (lq11 : 0 ≤ q11) (uq11 : q11 < 4294967296) (lh11 : 0 ≤ h11) (uh11 : h11 < 4294967296) (ex5 : c2 + h11 + c4 = x5) (lx5 : 0 ≤ x5) (ux5 : x5 < 18446744073709551616) (ey5 : x5 / 4294967296 = y5) (er5 : x5 % 4294967296 = r5) (ly5 : 0 ≤ y5) (uy5 : y5 < 4294967296) (lr5 : 0 ≤ r5) (ur5 : r5 < 4294967296) (ec5 : q11 + y5 = c5) (lc5 : 0 ≤ c5) (uc5 : c5 < 4294967296) (em_c5 : c5 % 4294967296 = c5) (ed_c5 : c5 / 4294967296 = 0) (em_r5 : r5 % 4294967296 = r5) (ed_r5 : r5 / 4294967296 = 0) :
    Calls Tryd.prog 67 #[.agg #[.bool s, .int .u64 a0, .int .u64 a1, .int .u64 0, .int .u64 0, .int .u64 0], .agg #[.bool z, .int .u64 b0, .int .u64 b1, .int .u64 0, .int .u64 0, .int .u64 0]] w fun e w' => e = .returned (.agg #[.bool (s != z), .int .u64 h00, .int .u64 r4, .int .u64 r5, .int .u64 c5, .int .u64 0]) ∧ Below w.heap.size w w' := by
  have R00 := Aside0.mk (And.intro la0 (And.intro ua0 (And.intro lb0 (And.intro ub0 (And.intro ep00 (And.intro lp00 (And.intro up00 (And.intro eq00 (And.intro eh00 (And.intro lq00 (And.intro uq00 (And.intro lh00 (And.intro uh00 (And.intro em_h00 (ed_h00)))))))))))))))
  have R01 := Aside0.mk (And.intro la0 (And.intro ua0 (And.intro lb1 (And.intro ub1 (And.intro ep01 (And.intro lp01 (And.intro up01 (And.intro eq01 (And.intro eh01 (And.intro lq01 (And.intro uq01 (And.intro lh01 (And.intro uh01 (And.intro lq00 (And.intro uq00 (And.intro ex2 (And.intro lx2 (And.intro ux2 (And.intro ey2 (And.intro er2 (And.intro ly2 (And.intro uy2 (And.intro lr2 (And.intro ur2 (And.intro ec2 (And.intro lc2 (uc2)))))))))))))))))))))))))))
  have R02 := Aside0.mk (And.intro lc2 (And.intro uc2 (And.intro em_c2 (ed_c2))))
  have R10 := Aside0.mk (And.intro la1 (And.intro ua1 (And.intro lb0 (And.intro ub0 (And.intro ep10 (And.intro lp10 (And.intro up10 (And.intro eq10 (And.intro eh10 (And.intro lq10 (And.intro uq10 (And.intro lh10 (And.intro uh10 (And.intro lr2 (And.intro ur2 (And.intro ex4 (And.intro lx4 (And.intro ux4 (And.intro ey4 (And.intro er4 (And.intro ly4 (And.intro uy4 (And.intro lr4 (And.intro ur4 (And.intro ec4 (And.intro lc4 (uc4)))))))))))))))))))))))))))
  have R11 := Aside0.mk (And.intro la1 (And.intro ua1 (And.intro lb1 (And.intro ub1 (And.intro ep11 (And.intro lp11 (And.intro up11 (And.intro eq11 (And.intro eh11 (And.intro lq11 (And.intro uq11 (And.intro lh11 (And.intro uh11 (And.intro lc2 (And.intro uc2 (And.intro lc4 (And.intro uc4 (And.intro ex5 (And.intro lx5 (And.intro ux5 (And.intro ey5 (And.intro er5 (And.intro ly5 (And.intro uy5 (And.intro lr5 (And.intro ur5 (And.intro ec5 (And.intro lc5 (uc5)))))))))))))))))))))))))))))
  have R12 := Aside0.mk (And.intro lc5 (And.intro uc5 (And.intro em_c5 (ed_c5))))
  have R20 := Aside0.mk (And.intro lr5 (And.intro ur5 (And.intro em_r5 (ed_r5))))
  have R21 := Aside0.mk (And.intro lc5 (And.intro uc5 (And.intro em_c5 (ed_c5))))
  have R30 := Aside0.mk (And.intro lc5 (And.intro uc5 (And.intro em_c5 (ed_c5))))
  clear la0 ua0 lb0 ub0 ep00 lp00 up00 eq00 eh00 lq00 uq00 lh00 uh00 em_h00 ed_h00 lb1 ub1 ep01 lp01 up01 eq01 eh01 lq01 uq01 lh01 uh01 ex2 lx2 ux2 ey2 er2 ly2 uy2 lr2 ur2 ec2 lc2 uc2 em_c2 ed_c2 la1 ua1 ep10 lp10 up10 eq10 eh10 lq10 uq10 lh10 uh10 ex4 lx4 ux4 ey4 er4 ly4 uy4 lr4 ur4 ec4 lc4 uc4 ep11 lp11 up11 eq11 eh11 lq11 uq11 lh11 uh11 ex5 lx5 ux5 ey5 er5 ly5 uy5 lr5 ur5 ec5 lc5 uc5 em_c5 ed_c5 em_r5 ed_r5
  go_enter Tryd.func67, Tryd.ntmps67
  go_wp2_with fail
  refine wp_loop_rounds 6 ?_
  refine cutw (St w s z a0 a1 b0 b1 0 0 0 0 0) ?_ ?_
  · with_reducible exact St.start w s z a0 a1 b0 b1
  intro W h
  obtain ⟨k0, k1, k2, k3, k4, k5, k6, k7, k8, k9, k10, k11, k12, k13, k14, k15, k16, k17, k18, k19, k20, k21, k22, k23, k24, k25, k26, k27, k28, k29, k30, k31, k32, k33⟩ := h.facts
  replace h := Aside0.mk h
  rw [rounds_succ]
  go_wp2_with fail
  refine wp_loop_rounds 6 ?_
  obtain ⟨la0, ua0, lb0, ub0, ep00, lp00, up00, eq00, eh00, lq00, uq00, lh00, uh00, em_h00, ed_h00⟩ := R00.out
  rw [rounds_succ]
  go_wp2_with fail
  go_quiet (fail)
  go_wp2_with fail
  go_quiet (fail)
  go_wp2_with fail
  clear la0 ua0 lb0 ub0 ep00 lp00 up00 eq00 eh00 lq00 uq00 lh00 uh00 em_h00 ed_h00
  refine cutw (St w s z a0 a1 b0 b1 h00 0 0 0 0) ?_ ?_
  · repeat (first | with_reducible exact h.out | with_reducible refine St.drew ?_ _ | with_reducible exact St.set0 (St.drew (St.drew h.out _) _) _ | with_reducible exact St.set0 (St.drew h.out _) _ | with_reducible exact St.set0 h.out _)
  clear k0 k1 k2 k3 k4 k5 k6 k7 k8 k9 k10 k11 k12 k13 k14 k15 k16 k17 k18 k19 k20 k21 k22 k23 k24 k25 k26 k27 k28 k29 k30 k31 k32 k33 h
  clear W
  intro W h
  obtain ⟨k0, k1, k2, k3, k4, k5, k6, k7, k8, k9, k10, k11, k12, k13, k14, k15, k16, k17, k18, k19, k20, k21, k22, k23, k24, k25, k26, k27, k28, k29, k30, k31, k32, k33⟩ := h.facts
  replace h := Aside0.mk h
  obtain ⟨la0, ua0, lb1, ub1, ep01, lp01, up01, eq01, eh01, lq01, uq01, lh01, uh01, lq00, uq00, ex2, lx2, ux2, ey2, er2, ly2, uy2, lr2, ur2, ec2, lc2, uc2⟩ := R01.out
  rw [rounds_succ]
  go_wp2_with fail
  go_quiet (fail)
  go_wp2_with fail
  go_quiet (fail)
  go_wp2_with fail
  clear la0 ua0 lb1 ub1 ep01 lp01 up01 eq01 eh01 lq01 uq01 lh01 uh01 lq00 uq00 ex2 lx2 ux2 ey2 er2 ly2 uy2 lr2 ur2 ec2 lc2 uc2
  refine cutw (St w s z a0 a1 b0 b1 h00 r2 0 0 0) ?_ ?_
  · repeat (first | with_reducible exact h.out | with_reducible refine St.drew ?_ _ | with_reducible exact St.set1 (St.drew (St.drew h.out _) _) _ | with_reducible exact St.set1 (St.drew h.out _) _ | with_reducible exact St.set1 h.out _)
  clear k0 k1 k2 k3 k4 k5 k6 k7 k8 k9 k10 k11 k12 k13 k14 k15 k16 k17 k18 k19 k20 k21 k22 k23 k24 k25 k26 k27 k28 k29 k30 k31 k32 k33 h
  clear W
  intro W h
  obtain ⟨k0, k1, k2, k3, k4, k5, k6, k7, k8, k9, k10, k11, k12, k13, k14, k15, k16, k17, k18, k19, k20, k21, k22, k23, k24, k25, k26, k27, k28, k29, k30, k31, k32, k33⟩ := h.facts
  replace h := Aside0.mk h
  obtain ⟨lc2, uc2, em_c2, ed_c2⟩ := R02.out
  rw [rounds_succ]
  go_wp2_with fail
  go_quiet (fail)
  go_wp2_with fail
  go_quiet (fail)
  go_wp2_with fail
  clear lc2 uc2 em_c2 ed_c2
  refine cutw (St w s z a0 a1 b0 b1 h00 r2 c2 0 0) ?_ ?_
  · repeat (first | with_reducible exact h.out | with_reducible refine St.drew ?_ _ | with_reducible exact St.set2 (St.drew (St.drew h.out _) _) _ | with_reducible exact St.set2 (St.drew h.out _) _ | with_reducible exact St.set2 h.out _)
  clear k0 k1 k2 k3 k4 k5 k6 k7 k8 k9 k10 k11 k12 k13 k14 k15 k16 k17 k18 k19 k20 k21 k22 k23 k24 k25 k26 k27 k28 k29 k30 k31 k32 k33 h
  clear W
  intro W h
  obtain ⟨k0, k1, k2, k3, k4, k5, k6, k7, k8, k9, k10, k11, k12, k13, k14, k15, k16, k17, k18, k19, k20, k21, k22, k23, k24, k25, k26, k27, k28, k29, k30, k31, k32, k33⟩ := h.facts
  replace h := Aside0.mk h
  rw [rounds_succ]
  go_wp2_with fail
  go_quiet (fail)
  go_wp2_with fail
  go_quiet (fail)
  go_wp2_with fail
  refine cutw (St w s z a0 a1 b0 b1 h00 r2 c2 0 0) ?_ ?_
  · repeat (first | with_reducible exact h.out | with_reducible refine St.drew ?_ _ | with_reducible exact St.set3 (St.drew (St.drew h.out _) _) _ | with_reducible exact St.set3 (St.drew h.out _) _ | with_reducible exact St.set3 h.out _)
  clear k0 k1 k2 k3 k4 k5 k6 k7 k8 k9 k10 k11 k12 k13 k14 k15 k16 k17 k18 k19 k20 k21 k22 k23 k24 k25 k26 k27 k28 k29 k30 k31 k32 k33 h
  clear W
  intro W h
  obtain ⟨k0, k1, k2, k3, k4, k5, k6, k7, k8, k9, k10, k11, k12, k13, k14, k15, k16, k17, k18, k19, k20, k21, k22, k23, k24, k25, k26, k27, k28, k29, k30, k31, k32, k33⟩ := h.facts
  replace h := Aside0.mk h
  rw [rounds_succ]
  go_wp2_with fail
  go_quiet (fail)
  go_wp2_with fail
  go_quiet (fail)
  go_wp2_with fail
  refine cutw (St w s z a0 a1 b0 b1 h00 r2 c2 0 0) ?_ ?_
  · repeat (first | with_reducible exact h.out | with_reducible refine St.drew ?_ _ | with_reducible exact St.set4 (St.drew (St.drew h.out _) _) _ | with_reducible exact St.set4 (St.drew h.out _) _ | with_reducible exact St.set4 h.out _)
  clear k0 k1 k2 k3 k4 k5 k6 k7 k8 k9 k10 k11 k12 k13 k14 k15 k16 k17 k18 k19 k20 k21 k22 k23 k24 k25 k26 k27 k28 k29 k30 k31 k32 k33 h
  clear W
  intro W h
  obtain ⟨k0, k1, k2, k3, k4, k5, k6, k7, k8, k9, k10, k11, k12, k13, k14, k15, k16, k17, k18, k19, k20, k21, k22, k23, k24, k25, k26, k27, k28, k29, k30, k31, k32, k33⟩ := h.facts
  replace h := Aside0.mk h
  rw [rounds_succ]
  go_wp2_with fail
  rw [rounds_succ]
  go_wp2_with fail
  refine wp_loop_rounds 6 ?_
  obtain ⟨la1, ua1, lb0, ub0, ep10, lp10, up10, eq10, eh10, lq10, uq10, lh10, uh10, lr2, ur2, ex4, lx4, ux4, ey4, er4, ly4, uy4, lr4, ur4, ec4, lc4, uc4⟩ := R10.out
  rw [rounds_succ]
  go_wp2_with fail
  go_quiet (fail)
  go_wp2_with fail
  go_quiet (fail)
  go_wp2_with fail
  clear la1 ua1 lb0 ub0 ep10 lp10 up10 eq10 eh10 lq10 uq10 lh10 uh10 lr2 ur2 ex4 lx4 ux4 ey4 er4 ly4 uy4 lr4 ur4 ec4 lc4 uc4
  refine cutw (St w s z a0 a1 b0 b1 h00 r4 c2 0 0) ?_ ?_
  · repeat (first | with_reducible exact h.out | with_reducible refine St.drew ?_ _ | with_reducible exact St.set1 (St.drew (St.drew h.out _) _) _ | with_reducible exact St.set1 (St.drew h.out _) _ | with_reducible exact St.set1 h.out _)
  clear k0 k1 k2 k3 k4 k5 k6 k7 k8 k9 k10 k11 k12 k13 k14 k15 k16 k17 k18 k19 k20 k21 k22 k23 k24 k25 k26 k27 k28 k29 k30 k31 k32 k33 h
  clear W
  intro W h
  obtain ⟨k0, k1, k2, k3, k4, k5, k6, k7, k8, k9, k10, k11, k12, k13, k14, k15, k16, k17, k18, k19, k20, k21, k22, k23, k24, k25, k26, k27, k28, k29, k30, k31, k32, k33⟩ := h.facts
  replace h := Aside0.mk h
  obtain ⟨la1, ua1, lb1, ub1, ep11, lp11, up11, eq11, eh11, lq11, uq11, lh11, uh11, lc2, uc2, lc4, uc4, ex5, lx5, ux5, ey5, er5, ly5, uy5, lr5, ur5, ec5, lc5, uc5⟩ := R11.out
  rw [rounds_succ]
  go_wp2_with fail
  go_quiet (fail)
  go_wp2_with fail
  go_quiet (fail)
  go_wp2_with fail
  clear la1 ua1 lb1 ub1 ep11 lp11 up11 eq11 eh11 lq11 uq11 lh11 uh11 lc2 uc2 lc4 uc4 ex5 lx5 ux5 ey5 er5 ly5 uy5 lr5 ur5 ec5 lc5 uc5
  refine cutw (St w s z a0 a1 b0 b1 h00 r4 r5 0 0) ?_ ?_
  · repeat (first | with_reducible exact h.out | with_reducible refine St.drew ?_ _ | with_reducible exact St.set2 (St.drew (St.drew h.out _) _) _ | with_reducible exact St.set2 (St.drew h.out _) _ | with_reducible exact St.set2 h.out _)
  clear k0 k1 k2 k3 k4 k5 k6 k7 k8 k9 k10 k11 k12 k13 k14 k15 k16 k17 k18 k19 k20 k21 k22 k23 k24 k25 k26 k27 k28 k29 k30 k31 k32 k33 h
  clear W
  intro W h
  obtain ⟨k0, k1, k2, k3, k4, k5, k6, k7, k8, k9, k10, k11, k12, k13, k14, k15, k16, k17, k18, k19, k20, k21, k22, k23, k24, k25, k26, k27, k28, k29, k30, k31, k32, k33⟩ := h.facts
  replace h := Aside0.mk h
  obtain ⟨lc5, uc5, em_c5, ed_c5⟩ := R12.out
  rw [rounds_succ]
  go_wp2_with fail
  go_quiet (fail)
  go_wp2_with fail
  go_quiet (fail)
  go_wp2_with fail
  clear lc5 uc5 em_c5 ed_c5
  refine cutw (St w s z a0 a1 b0 b1 h00 r4 r5 c5 0) ?_ ?_
  · repeat (first | with_reducible exact h.out | with_reducible refine St.drew ?_ _ | with_reducible exact St.set3 (St.drew (St.drew h.out _) _) _ | with_reducible exact St.set3 (St.drew h.out _) _ | with_reducible exact St.set3 h.out _)
  clear k0 k1 k2 k3 k4 k5 k6 k7 k8 k9 k10 k11 k12 k13 k14 k15 k16 k17 k18 k19 k20 k21 k22 k23 k24 k25 k26 k27 k28 k29 k30 k31 k32 k33 h
  clear W
  intro W h
  obtain ⟨k0, k1, k2, k3, k4, k5, k6, k7, k8, k9, k10, k11, k12, k13, k14, k15, k16, k17, k18, k19, k20, k21, k22, k23, k24, k25, k26, k27, k28, k29, k30, k31, k32, k33⟩ := h.facts
  replace h := Aside0.mk h
  rw [rounds_succ]
  go_wp2_with fail
  go_quiet (fail)
  go_wp2_with fail
  go_quiet (fail)
  go_wp2_with fail
  refine cutw (St w s z a0 a1 b0 b1 h00 r4 r5 c5 0) ?_ ?_
  · repeat (first | with_reducible exact h.out | with_reducible refine St.drew ?_ _ | with_reducible exact St.set4 (St.drew (St.drew h.out _) _) _ | with_reducible exact St.set4 (St.drew h.out _) _ | with_reducible exact St.set4 h.out _)
  clear k0 k1 k2 k3 k4 k5 k6 k7 k8 k9 k10 k11 k12 k13 k14 k15 k16 k17 k18 k19 k20 k21 k22 k23 k24 k25 k26 k27 k28 k29 k30 k31 k32 k33 h
  clear W
  intro W h
  obtain ⟨k0, k1, k2, k3, k4, k5, k6, k7, k8, k9, k10, k11, k12, k13, k14, k15, k16, k17, k18, k19, k20, k21, k22, k23, k24, k25, k26, k27, k28, k29, k30, k31, k32, k33⟩ := h.facts
  replace h := Aside0.mk h
  rw [rounds_succ]
  go_wp2_with fail
  rw [rounds_succ]
  go_wp2_with fail
  refine wp_loop_rounds 6 ?_
  obtain ⟨lr5, ur5, em_r5, ed_r5⟩ := R20.out
  rw [rounds_succ]
  go_wp2_with fail
  go_quiet (fail)
  go_wp2_with fail
  go_quiet (fail)
  go_wp2_with fail
  clear lr5 ur5 em_r5 ed_r5
  refine cutw (St w s z a0 a1 b0 b1 h00 r4 r5 c5 0) ?_ ?_
  · repeat (first | with_reducible exact h.out | with_reducible refine St.drew ?_ _ | with_reducible exact St.set2 (St.drew (St.drew h.out _) _) _ | with_reducible exact St.set2 (St.drew h.out _) _ | with_reducible exact St.set2 h.out _)
  clear k0 k1 k2 k3 k4 k5 k6 k7 k8 k9 k10 k11 k12 k13 k14 k15 k16 k17 k18 k19 k20 k21 k22 k23 k24 k25 k26 k27 k28 k29 k30 k31 k32 k33 h
  clear W
  intro W h
  obtain ⟨k0, k1, k2, k3, k4, k5, k6, k7, k8, k9, k10, k11, k12, k13, k14, k15, k16, k17, k18, k19, k20, k21, k22, k23, k24, k25, k26, k27, k28, k29, k30, k31, k32, k33⟩ := h.facts
  replace h := Aside0.mk h
  obtain ⟨lc5, uc5, em_c5, ed_c5⟩ := R21.out
  rw [rounds_succ]
  go_wp2_with fail
  go_quiet (fail)
  go_wp2_with fail
  go_quiet (fail)
  go_wp2_with fail
  clear lc5 uc5 em_c5 ed_c5
  refine cutw (St w s z a0 a1 b0 b1 h00 r4 r5 c5 0) ?_ ?_
  · repeat (first | with_reducible exact h.out | with_reducible refine St.drew ?_ _ | with_reducible exact St.set3 (St.drew (St.drew h.out _) _) _ | with_reducible exact St.set3 (St.drew h.out _) _ | with_reducible exact St.set3 h.out _)
  clear k0 k1 k2 k3 k4 k5 k6 k7 k8 k9 k10 k11 k12 k13 k14 k15 k16 k17 k18 k19 k20 k21 k22 k23 k24 k25 k26 k27 k28 k29 k30 k31 k32 k33 h
  clear W
  intro W h
  obtain ⟨k0, k1, k2, k3, k4, k5, k6, k7, k8, k9, k10, k11, k12, k13, k14, k15, k16, k17, k18, k19, k20, k21, k22, k23, k24, k25, k26, k27, k28, k29, k30, k31, k32, k33⟩ := h.facts
  replace h := Aside0.mk h
  rw [rounds_succ]
  go_wp2_with fail
  go_quiet (fail)
  go_wp2_with fail
  go_quiet (fail)
  go_wp2_with fail
  refine cutw (St w s z a0 a1 b0 b1 h00 r4 r5 c5 0) ?_ ?_
  · repeat (first | with_reducible exact h.out | with_reducible refine St.drew ?_ _ | with_reducible exact St.set4 (St.drew (St.drew h.out _) _) _ | with_reducible exact St.set4 (St.drew h.out _) _ | with_reducible exact St.set4 h.out _)
  clear k0 k1 k2 k3 k4 k5 k6 k7 k8 k9 k10 k11 k12 k13 k14 k15 k16 k17 k18 k19 k20 k21 k22 k23 k24 k25 k26 k27 k28 k29 k30 k31 k32 k33 h
  clear W
  intro W h
  obtain ⟨k0, k1, k2, k3, k4, k5, k6, k7, k8, k9, k10, k11, k12, k13, k14, k15, k16, k17, k18, k19, k20, k21, k22, k23, k24, k25, k26, k27, k28, k29, k30, k31, k32, k33⟩ := h.facts
  replace h := Aside0.mk h
  rw [rounds_succ]
  go_wp2_with fail
  rw [rounds_succ]
  go_wp2_with fail
  refine wp_loop_rounds 6 ?_
  obtain ⟨lc5, uc5, em_c5, ed_c5⟩ := R30.out
  rw [rounds_succ]
  go_wp2_with fail
  go_quiet (fail)
  go_wp2_with fail
  go_quiet (fail)
  go_wp2_with fail
  clear lc5 uc5 em_c5 ed_c5
  refine cutw (St w s z a0 a1 b0 b1 h00 r4 r5 c5 0) ?_ ?_
  · repeat (first | with_reducible exact h.out | with_reducible refine St.drew ?_ _ | with_reducible exact St.set3 (St.drew (St.drew h.out _) _) _ | with_reducible exact St.set3 (St.drew h.out _) _ | with_reducible exact St.set3 h.out _)
  clear k0 k1 k2 k3 k4 k5 k6 k7 k8 k9 k10 k11 k12 k13 k14 k15 k16 k17 k18 k19 k20 k21 k22 k23 k24 k25 k26 k27 k28 k29 k30 k31 k32 k33 h
  clear W
  intro W h
  obtain ⟨k0, k1, k2, k3, k4, k5, k6, k7, k8, k9, k10, k11, k12, k13, k14, k15, k16, k17, k18, k19, k20, k21, k22, k23, k24, k25, k26, k27, k28, k29, k30, k31, k32, k33⟩ := h.facts
  replace h := Aside0.mk h
  rw [rounds_succ]
  go_wp2_with fail
  go_quiet (fail)
  go_wp2_with fail
  go_quiet (fail)
  go_wp2_with fail
  refine cutw (St w s z a0 a1 b0 b1 h00 r4 r5 c5 0) ?_ ?_
  · repeat (first | with_reducible exact h.out | with_reducible refine St.drew ?_ _ | with_reducible exact St.set4 (St.drew (St.drew h.out _) _) _ | with_reducible exact St.set4 (St.drew h.out _) _ | with_reducible exact St.set4 h.out _)
  clear k0 k1 k2 k3 k4 k5 k6 k7 k8 k9 k10 k11 k12 k13 k14 k15 k16 k17 k18 k19 k20 k21 k22 k23 k24 k25 k26 k27 k28 k29 k30 k31 k32 k33 h
  clear W
  intro W h
  obtain ⟨k0, k1, k2, k3, k4, k5, k6, k7, k8, k9, k10, k11, k12, k13, k14, k15, k16, k17, k18, k19, k20, k21, k22, k23, k24, k25, k26, k27, k28, k29, k30, k31, k32, k33⟩ := h.facts
  replace h := Aside0.mk h
  rw [rounds_succ]
  go_wp2_with fail
  rw [rounds_succ]
  go_wp2_with fail
  refine wp_loop_rounds 6 ?_
  rw [rounds_succ]
  go_wp2_with fail
  go_quiet (fail)
  go_wp2_with fail
  go_quiet (fail)
  go_wp2_with fail
  refine cutw (St w s z a0 a1 b0 b1 h00 r4 r5 c5 0) ?_ ?_
  · repeat (first | with_reducible exact h.out | with_reducible refine St.drew ?_ _ | with_reducible exact St.set4 (St.drew (St.drew h.out _) _) _ | with_reducible exact St.set4 (St.drew h.out _) _ | with_reducible exact St.set4 h.out _)
  clear k0 k1 k2 k3 k4 k5 k6 k7 k8 k9 k10 k11 k12 k13 k14 k15 k16 k17 k18 k19 k20 k21 k22 k23 k24 k25 k26 k27 k28 k29 k30 k31 k32 k33 h
  clear W
  intro W h
  obtain ⟨k0, k1, k2, k3, k4, k5, k6, k7, k8, k9, k10, k11, k12, k13, k14, k15, k16, k17, k18, k19, k20, k21, k22, k23, k24, k25, k26, k27, k28, k29, k30, k31, k32, k33⟩ := h.facts
  replace h := Aside0.mk h
  rw [rounds_succ]
  go_wp2_with fail
  rw [rounds_succ]
  go_wp2_with fail
  simp [bodyPost, results, Tryd.results67, go_sem, k12, k13, k14, k15, k16, k17, k23, k24, k25, k26, k27, k28]
  refine ⟨by cases s <;> cases z <;> rfl, ?_⟩
  refine set_ok (set_ok (set_ok (set_ok (set_ok (set_ok h.out.1 ?_ _) ?_ _) ?_ _) ?_ _) ?_ _) ?_ _ <;> omega
def rf17_times.f (s : Bool) (a0 a1 a2 a3 a4 : Int) (z : Bool) (b0 b1 b2 b3 b4 : Int) : Option (Bool × Int × Int × Int × Int × Int) :=
  if Digs a0 a1 a2 a3 a4 ∧ Digs b0 b1 b2 b3 b4 ∧ (a2 = 0 ∧ a3 = 0 ∧ a4 = 0) ∧ b2 = 0 ∧ b3 = 0 ∧ b4 = 0 then some (s != z, d0 (num a0 a1 a2 a3 a4 * num b0 b1 b2 b3 b4), d1 (num a0 a1 a2 a3 a4 * num b0 b1 b2 b3 b4), d2 (num a0 a1 a2 a3 a4 * num b0 b1 b2 b3 b4), d3 (num a0 a1 a2 a3 a4 * num b0 b1 b2 b3 b4), d4 (num a0 a1 a2 a3 a4 * num b0 b1 b2 b3 b4)) else none
set_option maxRecDepth 100000 in
set_option maxHeartbeats 1000000 in
theorem rf17_times.calls (s : Bool) (a0 a1 a2 a3 a4 : Int) (z : Bool) (b0 b1 b2 b3 b4 : Int) (g0 : Bool) (g1 g2 g3 g4 g5 : Int) (w : World) (h : rf17_times.f s a0 a1 a2 a3 a4 z b0 b1 b2 b3 b4 = some (g0, g1, g2, g3, g4, g5)) :
    Calls Tryd.prog 67 #[.agg #[.bool s, .int .u64 a0, .int .u64 a1, .int .u64 a2, .int .u64 a3, .int .u64 a4], .agg #[.bool z, .int .u64 b0, .int .u64 b1, .int .u64 b2, .int .u64 b3, .int .u64 b4]] w fun e w' => e = .returned (.agg #[.bool g0, .int .u64 g1, .int .u64 g2, .int .u64 g3, .int .u64 g4, .int .u64 g5]) ∧ Below w.heap.size w w' := by
  unfold rf17_times.f at h
  by_cases hc : Digs a0 a1 a2 a3 a4 ∧ Digs b0 b1 b2 b3 b4 ∧ (a2 = 0 ∧ a3 = 0 ∧ a4 = 0) ∧ b2 = 0 ∧ b3 = 0 ∧ b4 = 0
  case neg => rw [if_neg hc] at h; cases h
  rw [if_pos hc] at h
  injection h with h
  simp only [Prod.mk.injEq] at h
  obtain ⟨q0, q1, q2, q3, q4, q5⟩ := h
  obtain ⟨⟨⟨la0, ua0⟩, ⟨la1, ua1⟩, -⟩, ⟨⟨lb0, ub0⟩, ⟨lb1, ub1⟩, -⟩, ⟨rfl, rfl, rfl⟩, rfl, rfl, rfl⟩ := hc
  have pr (x y : Int) (h0 : 0 ≤ x) (h1 : x < 4294967296) (h2 : 0 ≤ y) (h3 : y < 4294967296) : 0 ≤ x * y ∧ x * y ≤ 18446744065119617025 := by
    refine ⟨Int.mul_nonneg h0 h2, ?_⟩
    calc x * y ≤ 4294967295 * y := Int.mul_le_mul_of_nonneg_right (by omega) h2
      _ ≤ 4294967295 * 4294967295 := Int.mul_le_mul_of_nonneg_left (by omega) (by decide)
      _ = 18446744065119617025 := by decide
  have hN : num a0 a1 0 0 0 * num b0 b1 0 0 0 = a0 * b0 + (a0 * b1 + a1 * b0) * 4294967296 + a1 * b1 * 18446744073709551616 := by
    simp only [num, Int.zero_mul, Int.add_zero]
    rw [Int.add_mul, Int.mul_add, Int.mul_add]
    have e1 : a0 * (b1 * 4294967296) = a0 * b1 * 4294967296 := (Int.mul_assoc _ _ _).symm
    have e2 : a1 * 4294967296 * b0 = a1 * b0 * 4294967296 := by rw [Int.mul_assoc, Int.mul_comm 4294967296, ← Int.mul_assoc]
    have e3 : a1 * 4294967296 * (b1 * 4294967296) = a1 * b1 * 18446744073709551616 := by
      rw [Int.mul_assoc, Int.mul_comm 4294967296, Int.mul_assoc, ← Int.mul_assoc a1]
      rfl
    rw [e1, e2, e3]
    omega
  obtain ⟨lp00, up00⟩ := pr a0 b0 la0 ua0 lb0 ub0
  obtain ⟨p00, ep00⟩ : ∃ p, a0 * b0 = p := ⟨_, rfl⟩
  rw [ep00] at lp00 up00 hN
  obtain ⟨lp01, up01⟩ := pr a0 b1 la0 ua0 lb1 ub1
  obtain ⟨p01, ep01⟩ : ∃ p, a0 * b1 = p := ⟨_, rfl⟩
  rw [ep01] at lp01 up01 hN
  obtain ⟨lp10, up10⟩ := pr a1 b0 la1 ua1 lb0 ub0
  obtain ⟨p10, ep10⟩ : ∃ p, a1 * b0 = p := ⟨_, rfl⟩
  rw [ep10] at lp10 up10 hN
  obtain ⟨lp11, up11⟩ := pr a1 b1 la1 ua1 lb1 ub1
  obtain ⟨p11, ep11⟩ : ∃ p, a1 * b1 = p := ⟨_, rfl⟩
  rw [ep11] at lp11 up11 hN
  rw [hN] at q1 q2 q3 q4 q5
  clear hN pr
  obtain ⟨q00, eq00⟩ : ∃ t, p00 / 4294967296 = t := ⟨_, rfl⟩
  obtain ⟨h00, eh00⟩ : ∃ t, p00 % 4294967296 = t := ⟨_, rfl⟩
  have lq00 : 0 ≤ q00 := by omega
  have uq00 : q00 < 4294967296 := by omega
  have lh00 : 0 ≤ h00 := by omega
  have uh00 : h00 < 4294967296 := by omega
  have em_h00 : h00 % 4294967296 = h00 := by omega
  have ed_h00 : h00 / 4294967296 = 0 := by omega
  obtain ⟨q01, eq01⟩ : ∃ t, p01 / 4294967296 = t := ⟨_, rfl⟩
  obtain ⟨h01, eh01⟩ : ∃ t, p01 % 4294967296 = t := ⟨_, rfl⟩
  have lq01 : 0 ≤ q01 := by omega
  have uq01 : q01 < 4294967296 := by omega
  have lh01 : 0 ≤ h01 := by omega
  have uh01 : h01 < 4294967296 := by omega
  obtain ⟨x2, ex2⟩ : ∃ t, h01 + q00 = t := ⟨_, rfl⟩
  have lx2 : 0 ≤ x2 := by omega
  have ux2 : x2 < 18446744073709551616 := by omega
  obtain ⟨y2, ey2⟩ : ∃ t, x2 / 4294967296 = t := ⟨_, rfl⟩
  obtain ⟨r2, er2⟩ : ∃ t, x2 % 4294967296 = t := ⟨_, rfl⟩
  have ly2 : 0 ≤ y2 := by omega
  have uy2 : y2 < 4294967296 := by omega
  have lr2 : 0 ≤ r2 := by omega
  have ur2 : r2 < 4294967296 := by omega
  obtain ⟨c2, ec2⟩ : ∃ t, q01 + y2 = t := ⟨_, rfl⟩
  have lc2 : 0 ≤ c2 := by omega
  have uc2 : c2 < 4294967296 := by omega
  have em_c2 : c2 % 4294967296 = c2 := by omega
  have ed_c2 : c2 / 4294967296 = 0 := by omega
  obtain ⟨q10, eq10⟩ : ∃ t, p10 / 4294967296 = t := ⟨_, rfl⟩
  obtain ⟨h10, eh10⟩ : ∃ t, p10 % 4294967296 = t := ⟨_, rfl⟩
  have lq10 : 0 ≤ q10 := by omega
  have uq10 : q10 < 4294967296 := by omega
  have lh10 : 0 ≤ h10 := by omega
  have uh10 : h10 < 4294967296 := by omega
  obtain ⟨x4, ex4⟩ : ∃ t, r2 + h10 = t := ⟨_, rfl⟩
  have lx4 : 0 ≤ x4 := by omega
  have ux4 : x4 < 18446744073709551616 := by omega
  obtain ⟨y4, ey4⟩ : ∃ t, x4 / 4294967296 = t := ⟨_, rfl⟩
  obtain ⟨r4, er4⟩ : ∃ t, x4 % 4294967296 = t := ⟨_, rfl⟩
  have ly4 : 0 ≤ y4 := by omega
  have uy4 : y4 < 4294967296 := by omega
  have lr4 : 0 ≤ r4 := by omega
  have ur4 : r4 < 4294967296 := by omega
  obtain ⟨c4, ec4⟩ : ∃ t, q10 + y4 = t := ⟨_, rfl⟩
  have lc4 : 0 ≤ c4 := by omega
  have uc4 : c4 < 4294967296 := by omega
  obtain ⟨q11, eq11⟩ : ∃ t, p11 / 4294967296 = t := ⟨_, rfl⟩
  obtain ⟨h11, eh11⟩ : ∃ t, p11 % 4294967296 = t := ⟨_, rfl⟩
  have lq11 : 0 ≤ q11 := by omega
  have uq11 : q11 < 4294967296 := by omega
  have lh11 : 0 ≤ h11 := by omega
  have uh11 : h11 < 4294967296 := by omega
  obtain ⟨x5, ex5⟩ : ∃ t, c2 + h11 + c4 = t := ⟨_, rfl⟩
  have lx5 : 0 ≤ x5 := by omega
  have ux5 : x5 < 18446744073709551616 := by omega
  obtain ⟨y5, ey5⟩ : ∃ t, x5 / 4294967296 = t := ⟨_, rfl⟩
  obtain ⟨r5, er5⟩ : ∃ t, x5 % 4294967296 = t := ⟨_, rfl⟩
  have ly5 : 0 ≤ y5 := by omega
  have uy5 : y5 < 4294967296 := by omega
  have lr5 : 0 ≤ r5 := by omega
  have ur5 : r5 < 4294967296 := by omega
  obtain ⟨c5, ec5⟩ : ∃ t, q11 + y5 = t := ⟨_, rfl⟩
  have lc5 : 0 ≤ c5 := by omega
  have uc5 : c5 < 4294967296 := by omega
  have em_c5 : c5 % 4294967296 = c5 := by omega
  have ed_c5 : c5 / 4294967296 = 0 := by omega
  have em_r5 : r5 % 4294967296 = r5 := by omega
  have ed_r5 : r5 / 4294967296 = 0 := by omega
  have hf := five_eq (p00 + (p01 + p10) * 4294967296 + p11 * 18446744073709551616) h00 r4 r5 c5 0 0 (by omega) (by omega) (by omega) (by omega) (by omega) (by omega) (by omega) (by omega) (by omega) (by omega) (by simp only [num]; omega)
  obtain ⟨t0, t1, t2, t3, t4⟩ := hf
  rw [← t0] at q1; rw [← t1] at q2; rw [← t2] at q3; rw [← t3] at q4; rw [← t4] at q5
  subst q0 q1 q2 q3 q4 q5
  exact times_walk s z a0 a1 b0 b1 p00 q00 h00 p01 q01 h01 x2 y2 r2 c2 p10 q10 h10 x4 y4 r4 c4 p11 q11 h11 x5 y5 r5 c5 w la0 ua0 la1 ua1 lb0 ub0 lb1 ub1 ep00 lp00 (by omega) eq00 eh00 lq00 uq00 lh00 uh00 em_h00 ed_h00 ep01 lp01 (by omega) eq01 eh01 lq01 uq01 lh01 uh01 ex2 lx2 ux2 ey2 er2 ly2 uy2 lr2 ur2 ec2 lc2 uc2 em_c2 ed_c2 ep10 lp10 (by omega) eq10 eh10 lq10 uq10 lh10 uh10 ex4 lx4 ux4 ey4 er4 ly4 uy4 lr4 ur4 ec4 lc4 uc4 ep11 lp11 (by omega) eq11 eh11 lq11 uq11 lh11 uh11 ex5 lx5 ux5 ey5 er5 ly5 uy5 lr5 ur5 ec5 lc5 uc5 em_c5 ed_c5 em_r5 ed_r5
end Go.Proofs.YtbodlnoipkommaaDoor.Rd
namespace Go.Proofs.YtbodlnoipkommaaDoor.Rc
open Go.Proofs.YtbodlnoipkommaaDoor.Ra Go.Proofs.YtbodlnoipkommaaDoor.Rb
open Go.RowKit Go.Proofs.YtbodlnoipkommaaDoorW.PrintWords Go.Proofs.YtbodlnoipkommaaDoorW.PrintLast Go.Proofs.YtbodlnoipkommaaDoorW.PrintMore
set_option maxRecDepth 100000 in
set_option maxHeartbeats 1000000 in
theorem under_4 (a0 a1 a2 a3 a4 b0 b1 b2 b3 b4 : Int) (w : World) (hne : ¬ a4 = b4) :
    Calls Tryd.prog 75 #[.agg #[.int .u64 a0, .int .u64 a1, .int .u64 a2, .int .u64 a3, .int .u64 a4], .agg #[.int .u64 b0, .int .u64 b1, .int .u64 b2, .int .u64 b3, .int .u64 b4]] w fun e w' => e = .returned (.bool (decide (a4 < b4))) ∧ Below w.heap.size w w' := by
  go_enter Tryd.func75, Tryd.ntmps75
  go_wp2_with fail
  refine wp_loop_rounds 6 ?_
  rw [rounds_succ]
  go_wp2_with fail
  go_quiet (fail)
  go_wp2_with fail
  go_quiet (fail)
  go_wp2_with fail
  simp [bodyPost, results, Tryd.results75, go_sem]
  try refine ⟨by assumption, ?_⟩
  repeat' (first | with_reducible exact Below.refl _ _ | with_reducible refine drew_ok ?_ _ | with_reducible refine set_ok ?_ ?_ _ | with_reducible refine below_alloc ?_ _)
  all_goals first | omega | trace_state
set_option maxRecDepth 100000 in
set_option maxHeartbeats 1000000 in
theorem under_3 (a0 a1 a2 a3 a4 b0 b1 b2 b3 : Int) (w : World) (hne : ¬ a3 = b3) :
    Calls Tryd.prog 75 #[.agg #[.int .u64 a0, .int .u64 a1, .int .u64 a2, .int .u64 a3, .int .u64 a4], .agg #[.int .u64 b0, .int .u64 b1, .int .u64 b2, .int .u64 b3, .int .u64 a4]] w fun e w' => e = .returned (.bool (decide (a3 < b3))) ∧ Below w.heap.size w w' := by
  go_enter Tryd.func75, Tryd.ntmps75
  go_wp2_with fail
  refine wp_loop_rounds 6 ?_
  rw [rounds_succ]
  go_wp2_with fail
  go_quiet (fail)
  go_wp2_with fail
  rw [rounds_succ]
  go_wp2_with fail
  go_quiet (fail)
  go_wp2_with fail
  go_quiet (fail)
  go_wp2_with fail
  simp [bodyPost, results, Tryd.results75, go_sem]
  try refine ⟨by assumption, ?_⟩
  repeat' (first | with_reducible exact Below.refl _ _ | with_reducible refine drew_ok ?_ _ | with_reducible refine set_ok ?_ ?_ _ | with_reducible refine below_alloc ?_ _)
  all_goals first | omega | trace_state
set_option maxRecDepth 100000 in
set_option maxHeartbeats 1000000 in
theorem under_2 (a0 a1 a2 a3 a4 b0 b1 b2 : Int) (w : World) (hne : ¬ a2 = b2) :
    Calls Tryd.prog 75 #[.agg #[.int .u64 a0, .int .u64 a1, .int .u64 a2, .int .u64 a3, .int .u64 a4], .agg #[.int .u64 b0, .int .u64 b1, .int .u64 b2, .int .u64 a3, .int .u64 a4]] w fun e w' => e = .returned (.bool (decide (a2 < b2))) ∧ Below w.heap.size w w' := by
  go_enter Tryd.func75, Tryd.ntmps75
  go_wp2_with fail
  refine wp_loop_rounds 6 ?_
  rw [rounds_succ]
  go_wp2_with fail
  go_quiet (fail)
  go_wp2_with fail
  rw [rounds_succ]
  go_wp2_with fail
  go_quiet (fail)
  go_wp2_with fail
  rw [rounds_succ]
  go_wp2_with fail
  go_quiet (fail)
  go_wp2_with fail
  go_quiet (fail)
  go_wp2_with fail
  simp [bodyPost, results, Tryd.results75, go_sem]
  try refine ⟨by assumption, ?_⟩
  repeat' (first | with_reducible exact Below.refl _ _ | with_reducible refine drew_ok ?_ _ | with_reducible refine set_ok ?_ ?_ _ | with_reducible refine below_alloc ?_ _)
  all_goals first | omega | trace_state
set_option maxRecDepth 100000 in
set_option maxHeartbeats 1000000 in
theorem under_1 (a0 a1 a2 a3 a4 b0 b1 : Int) (w : World) (hne : ¬ a1 = b1) :
    Calls Tryd.prog 75 #[.agg #[.int .u64 a0, .int .u64 a1, .int .u64 a2, .int .u64 a3, .int .u64 a4], .agg #[.int .u64 b0, .int .u64 b1, .int .u64 a2, .int .u64 a3, .int .u64 a4]] w fun e w' => e = .returned (.bool (decide (a1 < b1))) ∧ Below w.heap.size w w' := by
  go_enter Tryd.func75, Tryd.ntmps75
  go_wp2_with fail
  refine wp_loop_rounds 6 ?_
  rw [rounds_succ]
  go_wp2_with fail
  go_quiet (fail)
  go_wp2_with fail
  rw [rounds_succ]
  go_wp2_with fail
  go_quiet (fail)
  go_wp2_with fail
  rw [rounds_succ]
  go_wp2_with fail
  go_quiet (fail)
  go_wp2_with fail
  rw [rounds_succ]
  go_wp2_with fail
  go_quiet (fail)
  go_wp2_with fail
  go_quiet (fail)
  go_wp2_with fail
  simp [bodyPost, results, Tryd.results75, go_sem]
  try refine ⟨by assumption, ?_⟩
  repeat' (first | with_reducible exact Below.refl _ _ | with_reducible refine drew_ok ?_ _ | with_reducible refine set_ok ?_ ?_ _ | with_reducible refine below_alloc ?_ _)
  all_goals first | omega | trace_state
set_option maxRecDepth 100000 in
set_option maxHeartbeats 1000000 in
theorem under_0 (a0 a1 a2 a3 a4 b0 : Int) (w : World) (hne : ¬ a0 = b0) :
    Calls Tryd.prog 75 #[.agg #[.int .u64 a0, .int .u64 a1, .int .u64 a2, .int .u64 a3, .int .u64 a4], .agg #[.int .u64 b0, .int .u64 a1, .int .u64 a2, .int .u64 a3, .int .u64 a4]] w fun e w' => e = .returned (.bool (decide (a0 < b0))) ∧ Below w.heap.size w w' := by
  go_enter Tryd.func75, Tryd.ntmps75
  go_wp2_with fail
  refine wp_loop_rounds 6 ?_
  rw [rounds_succ]
  go_wp2_with fail
  go_quiet (fail)
  go_wp2_with fail
  rw [rounds_succ]
  go_wp2_with fail
  go_quiet (fail)
  go_wp2_with fail
  rw [rounds_succ]
  go_wp2_with fail
  go_quiet (fail)
  go_wp2_with fail
  rw [rounds_succ]
  go_wp2_with fail
  go_quiet (fail)
  go_wp2_with fail
  rw [rounds_succ]
  go_wp2_with fail
  go_quiet (fail)
  go_wp2_with fail
  go_quiet (fail)
  go_wp2_with fail
  simp [bodyPost, results, Tryd.results75, go_sem]
  try refine ⟨by assumption, ?_⟩
  repeat' (first | with_reducible exact Below.refl _ _ | with_reducible refine drew_ok ?_ _ | with_reducible refine set_ok ?_ ?_ _ | with_reducible refine below_alloc ?_ _)
  all_goals first | omega | trace_state
set_option maxRecDepth 100000 in
set_option maxHeartbeats 1000000 in
theorem under_eq (a0 a1 a2 a3 a4 : Int) (w : World) :
    Calls Tryd.prog 75 #[.agg #[.int .u64 a0, .int .u64 a1, .int .u64 a2, .int .u64 a3, .int .u64 a4], .agg #[.int .u64 a0, .int .u64 a1, .int .u64 a2, .int .u64 a3, .int .u64 a4]] w fun e w' => e = .returned (.bool false) ∧ Below w.heap.size w w' := by
  go_enter Tryd.func75, Tryd.ntmps75
  go_wp2_with fail
  refine wp_loop_rounds 6 ?_
  rw [rounds_succ]
  go_wp2_with fail
  go_quiet (fail)
  go_wp2_with fail
  rw [rounds_succ]
  go_wp2_with fail
  go_quiet (fail)
  go_wp2_with fail
  rw [rounds_succ]
  go_wp2_with fail
  go_quiet (fail)
  go_wp2_with fail
  rw [rounds_succ]
  go_wp2_with fail
  go_quiet (fail)
  go_wp2_with fail
  rw [rounds_succ]
  go_wp2_with fail
  go_quiet (fail)
  go_wp2_with fail
  rw [rounds_succ]
  go_wp2_with fail
  simp [bodyPost, results, Tryd.results75, go_sem]
  try refine ⟨by assumption, ?_⟩
  repeat' (first | with_reducible exact Below.refl _ _ | with_reducible refine drew_ok ?_ _ | with_reducible refine set_ok ?_ ?_ _ | with_reducible refine below_alloc ?_ _)
  all_goals first | omega | trace_state
def rf17_under.f (a0 a1 a2 a3 a4 b0 b1 b2 b3 b4 : Int) : Option Bool := if Digs a0 a1 a2 a3 a4 ∧ Digs b0 b1 b2 b3 b4 then some (decide (num a0 a1 a2 a3 a4 < num b0 b1 b2 b3 b4)) else none
set_option maxRecDepth 100000 in
set_option maxHeartbeats 1000000 in
theorem rf17_under.calls (a0 a1 a2 a3 a4 b0 b1 b2 b3 b4 : Int) (r : Bool) (w : World) (h : rf17_under.f a0 a1 a2 a3 a4 b0 b1 b2 b3 b4 = some r) :
    Calls Tryd.prog 75 #[.agg #[.int .u64 a0, .int .u64 a1, .int .u64 a2, .int .u64 a3, .int .u64 a4], .agg #[.int .u64 b0, .int .u64 b1, .int .u64 b2, .int .u64 b3, .int .u64 b4]] w fun e w' => e = .returned (.bool r) ∧ Below w.heap.size w w' := by
  unfold rf17_under.f at h
  by_cases hc : Digs a0 a1 a2 a3 a4 ∧ Digs b0 b1 b2 b3 b4
  case neg => rw [if_neg hc] at h; cases h
  rw [if_pos hc] at h
  injection h with h
  obtain ⟨⟨⟨la0, ua0⟩, ⟨la1, ua1⟩, ⟨la2, ua2⟩, ⟨la3, ua3⟩, la4, ua4⟩, ⟨lb0, ub0⟩, ⟨lb1, ub1⟩, ⟨lb2, ub2⟩, ⟨lb3, ub3⟩, lb4, ub4⟩ := hc
  by_cases h4 : a4 = b4
  case neg =>
    have e : decide (num a0 a1 a2 a3 a4 < num b0 b1 b2 b3 b4) = decide (a4 < b4) := by
      refine decide_eq_decide.mpr ?_
      simp only [num]
      omega
    rw [e] at h
    subst h
    exact under_4 a0 a1 a2 a3 a4 b0 b1 b2 b3 b4 w h4
  by_cases h3 : a3 = b3
  case neg =>
    have e : decide (num a0 a1 a2 a3 a4 < num b0 b1 b2 b3 b4) = decide (a3 < b3) := by
      refine decide_eq_decide.mpr ?_
      simp only [num]
      omega
    rw [e] at h
    subst h
    subst h4
    exact under_3 a0 a1 a2 a3 a4 b0 b1 b2 b3 w h3
  by_cases h2 : a2 = b2
  case neg =>
    have e : decide (num a0 a1 a2 a3 a4 < num b0 b1 b2 b3 b4) = decide (a2 < b2) := by
      refine decide_eq_decide.mpr ?_
      simp only [num]
      omega
    rw [e] at h
    subst h
    subst h4
    subst h3
    exact under_2 a0 a1 a2 a3 a4 b0 b1 b2 w h2
  by_cases h1 : a1 = b1
  case neg =>
    have e : decide (num a0 a1 a2 a3 a4 < num b0 b1 b2 b3 b4) = decide (a1 < b1) := by
      refine decide_eq_decide.mpr ?_
      simp only [num]
      omega
    rw [e] at h
    subst h
    subst h4
    subst h3
    subst h2
    exact under_1 a0 a1 a2 a3 a4 b0 b1 w h1
  by_cases h0 : a0 = b0
  case neg =>
    have e : decide (num a0 a1 a2 a3 a4 < num b0 b1 b2 b3 b4) = decide (a0 < b0) := by
      refine decide_eq_decide.mpr ?_
      simp only [num]
      omega
    rw [e] at h
    subst h
    subst h4
    subst h3
    subst h2
    subst h1
    exact under_0 a0 a1 a2 a3 a4 b0 w h0
  subst h4
  subst h3
  subst h2
  subst h1
  subst h0
  rw [decide_eq_false (Int.lt_irrefl _)] at h
  subst h
  exact under_eq a0 a1 a2 a3 a4 w
set_option maxRecDepth 100000 in
set_option maxHeartbeats 1000000 in
theorem less_walk (a0 a1 a2 a3 a4 x0 x1 x2 x3 x4 o0 o1 o2 o3 o4 c0 c1 c2 c3 c4 : Int) (w : World) (la0 : 0 ≤ a0) (ua0 : a0 < 4294967296) (la1 : 0 ≤ a1) (ua1 : a1 < 4294967296) (la2 : 0 ≤ a2) (ua2 : a2 < 4294967296) (la3 : 0 ≤ a3) (ua3 : a3 < 4294967296) (la4 : 0 ≤ a4) (ua4 : a4 < 4294967296) (e4 : a4 = x4) (lx4 : 0 ≤ x4) (ux4 : x4 < 18446744073709551616) (f4 : x4 / 10000 = o4) (g4 : x4 % 10000 = c4) (lc4 : 0 ≤ c4) (uc4 : c4 < 10000) (e3 : c4 * 4294967296 + a3 = x3) (lx3 : 0 ≤ x3) (ux3 : x3 < 18446744073709551616) (f3 : x3 / 10000 = o3) (g3 : x3 % 10000 = c3) (lc3 : 0 ≤ c3) (uc3 : c3 < 10000) (e2 : c3 * 4294967296 + a2 = x2) (lx2 : 0 ≤ x2) (ux2 : x2 < 18446744073709551616) (f2 : x2 / 10000 = o2) (g2 : x2 % 10000 = c2) (lc2 : 0 ≤ c2) (uc2 : c2 < 10000) (e1 : c2 * 4294967296 + a1 = x1) (lx1 : 0 ≤ x1) (ux1 : x1 < 18446744073709551616) (f1 : x1 / 10000 = o1) (g1 : x1 % 10000 = c1) (lc1 : 0 ≤ c1) (uc1 : c1 < 10000) (e0 : c1 * 4294967296 + a0 = x0) (lx0 : 0 ≤ x0) (ux0 : x0 < 18446744073709551616) (f0 : x0 / 10000 = o0) (g0 : x0 % 10000 = c0) (lc0 : 0 ≤ c0) (uc0 : c0 < 10000) :
    Calls Tryd.prog 68 #[.agg #[.int .u64 a0, .int .u64 a1, .int .u64 a2, .int .u64 a3, .int .u64 a4]] w fun e w' => e = .returned (.tuple #[.agg #[.int .u64 o0, .int .u64 o1, .int .u64 o2, .int .u64 o3, .int .u64 o4], .int .u64 c0]) ∧ Below w.heap.size w w' := by
  go_enter Tryd.func68, Tryd.ntmps68
  go_wp2_with fail
  refine wp_loop_rounds 6 ?_
  rw [rounds_succ]
  go_wp2_with fail
  rw [rounds_succ]
  go_wp2_with fail
  rw [rounds_succ]
  go_wp2_with fail
  rw [rounds_succ]
  go_wp2_with fail
  rw [rounds_succ]
  go_wp2_with fail
  rw [rounds_succ]
  go_wp2_with fail
  simp [bodyPost, results, Tryd.results68, go_sem]
  try refine ⟨by assumption, ?_⟩
  repeat' (first | with_reducible exact Below.refl _ _ | with_reducible refine drew_ok ?_ _ | with_reducible refine set_ok ?_ ?_ _ | with_reducible refine below_alloc ?_ _)
  all_goals first | omega | trace_state
def rf17_less.f (a0 a1 a2 a3 a4 : Int) : Option (Int × Int × Int × Int × Int × Int) := if Digs a0 a1 a2 a3 a4 then some (d0 (num a0 a1 a2 a3 a4 / 10000), d1 (num a0 a1 a2 a3 a4 / 10000), d2 (num a0 a1 a2 a3 a4 / 10000), d3 (num a0 a1 a2 a3 a4 / 10000), d4 (num a0 a1 a2 a3 a4 / 10000), num a0 a1 a2 a3 a4 % 10000) else none
set_option maxRecDepth 100000 in
set_option maxHeartbeats 1000000 in
theorem rf17_less.calls (a0 a1 a2 a3 a4 : Int) (r1 r2 r3 r4 r5 r6 : Int) (w : World) (h : rf17_less.f a0 a1 a2 a3 a4 = some (r1, r2, r3, r4, r5, r6)) :
    Calls Tryd.prog 68 #[.agg #[.int .u64 a0, .int .u64 a1, .int .u64 a2, .int .u64 a3, .int .u64 a4]] w fun e w' => e = .returned (.tuple #[.agg #[.int .u64 r1, .int .u64 r2, .int .u64 r3, .int .u64 r4, .int .u64 r5], .int .u64 r6]) ∧ Below w.heap.size w w' := by
  unfold rf17_less.f at h
  by_cases hc : Digs a0 a1 a2 a3 a4
  case neg => rw [if_neg hc] at h; cases h
  rw [if_pos hc] at h
  injection h with h
  simp only [Prod.mk.injEq] at h
  obtain ⟨q1, q2, q3, q4, q5, q6⟩ := h
  obtain ⟨⟨la0, ua0⟩, ⟨la1, ua1⟩, ⟨la2, ua2⟩, ⟨la3, ua3⟩, la4, ua4⟩ := hc
  obtain ⟨x4, e4⟩ : ∃ x, a4 = x := ⟨_, rfl⟩
  obtain ⟨o4, f4⟩ : ∃ o, x4 / 10000 = o := ⟨_, rfl⟩
  obtain ⟨c4, g4⟩ : ∃ c, x4 % 10000 = c := ⟨_, rfl⟩
  have lc4 : 0 ≤ c4 := by omega
  have uc4 : c4 < 10000 := by omega
  have m4 : o4 * 10000 + c4 = x4 := by omega
  have lo4 : 0 ≤ o4 := by omega
  have uo4 : o4 < 4294967296 := by omega
  obtain ⟨x3, e3⟩ : ∃ x, c4 * 4294967296 + a3 = x := ⟨_, rfl⟩
  obtain ⟨o3, f3⟩ : ∃ o, x3 / 10000 = o := ⟨_, rfl⟩
  obtain ⟨c3, g3⟩ : ∃ c, x3 % 10000 = c := ⟨_, rfl⟩
  have lc3 : 0 ≤ c3 := by omega
  have uc3 : c3 < 10000 := by omega
  have m3 : o3 * 10000 + c3 = x3 := by omega
  have lo3 : 0 ≤ o3 := by omega
  have uo3 : o3 < 4294967296 := by omega
  obtain ⟨x2, e2⟩ : ∃ x, c3 * 4294967296 + a2 = x := ⟨_, rfl⟩
  obtain ⟨o2, f2⟩ : ∃ o, x2 / 10000 = o := ⟨_, rfl⟩
  obtain ⟨c2, g2⟩ : ∃ c, x2 % 10000 = c := ⟨_, rfl⟩
  have lc2 : 0 ≤ c2 := by omega
  have uc2 : c2 < 10000 := by omega
  have m2 : o2 * 10000 + c2 = x2 := by omega
  have lo2 : 0 ≤ o2 := by omega
  have uo2 : o2 < 4294967296 := by omega
  obtain ⟨x1, e1⟩ : ∃ x, c2 * 4294967296 + a1 = x := ⟨_, rfl⟩
  obtain ⟨o1, f1⟩ : ∃ o, x1 / 10000 = o := ⟨_, rfl⟩
  obtain ⟨c1, g1⟩ : ∃ c, x1 % 10000 = c := ⟨_, rfl⟩
  have lc1 : 0 ≤ c1 := by omega
  have uc1 : c1 < 10000 := by omega
  have m1 : o1 * 10000 + c1 = x1 := by omega
  have lo1 : 0 ≤ o1 := by omega
  have uo1 : o1 < 4294967296 := by omega
  obtain ⟨x0, e0⟩ : ∃ x, c1 * 4294967296 + a0 = x := ⟨_, rfl⟩
  obtain ⟨o0, f0⟩ : ∃ o, x0 / 10000 = o := ⟨_, rfl⟩
  obtain ⟨c0, g0⟩ : ∃ c, x0 % 10000 = c := ⟨_, rfl⟩
  have lc0 : 0 ≤ c0 := by omega
  have uc0 : c0 < 10000 := by omega
  have m0 : o0 * 10000 + c0 = x0 := by omega
  have lo0 : 0 ≤ o0 := by omega
  have uo0 : o0 < 4294967296 := by omega
  have hN : num a0 a1 a2 a3 a4 = 10000 * num o0 o1 o2 o3 o4 + c0 := by simp only [num]; omega
  have hq : num a0 a1 a2 a3 a4 / 10000 = num o0 o1 o2 o3 o4 + 0 * 1461501637330902918203684832716283019655932542976 := by omega
  have hr : num a0 a1 a2 a3 a4 % 10000 = c0 := by omega
  have hf := five_eq (num a0 a1 a2 a3 a4 / 10000) o0 o1 o2 o3 o4 0 lo0 uo0 lo1 uo1 lo2 uo2 lo3 uo3 lo4 uo4 hq
  obtain ⟨p0, p1, p2, p3, p4⟩ := hf
  rw [← p0] at q1; rw [← p1] at q2; rw [← p2] at q3; rw [← p3] at q4; rw [← p4] at q5; rw [hr] at q6
  subst q1 q2 q3 q4 q5 q6
  exact less_walk a0 a1 a2 a3 a4 x0 x1 x2 x3 x4 o0 o1 o2 o3 o4 c0 c1 c2 c3 c4 w la0 ua0 la1 ua1 la2 ua2 la3 ua3 la4 ua4 e4 (by omega) (by omega) f4 g4 lc4 uc4 e3 (by omega) (by omega) f3 g3 lc3 uc3 e2 (by omega) (by omega) f2 g2 lc2 uc2 e1 (by omega) (by omega) f1 g1 lc1 uc1 e0 (by omega) (by omega) f0 g0 lc0 uc0
set_option maxRecDepth 100000 in
set_option maxHeartbeats 1000000 in
theorem big_pos (n : Int) (w : World) (h0 : 0 ≤ n) (h1 : n < 9223372036854775808) :
    Calls Tryd.prog 66 #[.int .i64 n] w fun e w' => e = .returned (.agg #[.bool false, .int .u64 (n % 4294967296), .int .u64 (n / 4294967296), .int .u64 0, .int .u64 0, .int .u64 0]) ∧ Below w.heap.size w w' := by
  have e0 : ¬ (n < 0) := by omega
  have e1 : n / 4294967296 % 18446744073709551616 = n / 4294967296 := by omega
  go_enter Tryd.func66, Tryd.ntmps66
  go_wp2_with fail
  simp [bodyPost, results, Tryd.results66, go_sem]
  try refine ⟨by assumption, ?_⟩
  repeat' (first | with_reducible exact Below.refl _ _ | with_reducible refine drew_ok ?_ _ | with_reducible refine set_ok ?_ ?_ _ | with_reducible refine below_alloc ?_ _)
  all_goals first | omega | trace_state
set_option maxRecDepth 100000 in
set_option maxHeartbeats 1000000 in
theorem big_neg (n m : Int) (w : World) (h0 : n < 0) (h1 : -9223372036854775808 ≤ n) (hm : IntKind.u64.wrap (-(IntKind.u64.wrap n)) = m) (m0 : 0 ≤ m) (m1 : m < 18446744073709551616) :
    Calls Tryd.prog 66 #[.int .i64 n] w fun e w' => e = .returned (.agg #[.bool true, .int .u64 (m % 4294967296), .int .u64 (m / 4294967296), .int .u64 0, .int .u64 0, .int .u64 0]) ∧ Below w.heap.size w w' := by
  go_enter Tryd.func66, Tryd.ntmps66
  go_wp2_with fail
  simp [bodyPost, results, Tryd.results66, go_sem]
  try refine ⟨by assumption, ?_⟩
  repeat' (first | with_reducible exact Below.refl _ _ | with_reducible refine drew_ok ?_ _ | with_reducible refine set_ok ?_ ?_ _ | with_reducible refine below_alloc ?_ _)
  all_goals first | omega | trace_state
def rf17_big.f (n : Int) : Option (Bool × Int × Int × Int × Int × Int) := if -9223372036854775808 ≤ n ∧ n < 9223372036854775808 then some (decide (n < 0), d0 n.natAbs, d1 n.natAbs, d2 n.natAbs, d3 n.natAbs, d4 n.natAbs) else none
set_option maxRecDepth 100000 in
set_option maxHeartbeats 1000000 in
theorem rf17_big.calls (n : Int) (r0 : Bool) (r1 r2 r3 r4 r5 : Int) (w : World) (h : rf17_big.f n = some (r0, r1, r2, r3, r4, r5)) :
    Calls Tryd.prog 66 #[.int .i64 n] w fun e w' => e = .returned (.agg #[.bool r0, .int .u64 r1, .int .u64 r2, .int .u64 r3, .int .u64 r4, .int .u64 r5]) ∧ Below w.heap.size w w' := by
  unfold rf17_big.f at h
  by_cases hc : -9223372036854775808 ≤ n ∧ n < 9223372036854775808
  case neg => rw [if_neg hc] at h; cases h
  rw [if_pos hc] at h
  injection h with h
  simp only [Prod.mk.injEq] at h
  obtain ⟨q0, q1, q2, q3, q4, q5⟩ := h
  unfold d0 at q1
  unfold d1 at q2
  unfold d2 at q3
  unfold d3 at q4
  unfold d4 at q5
  by_cases hn : n < 0
  · obtain ⟨m, hm⟩ : ∃ m : Int, (n.natAbs : Int) = m := ⟨_, rfl⟩
    rw [hm] at q1 q2 q3 q4 q5
    have q3' : r3 = 0 := by omega
    have q4' : r4 = 0 := by omega
    have q5' : r5 = 0 := by omega
    have q2' : m / 4294967296 = r2 := by omega
    rw [decide_eq_true hn] at q0
    subst q0 q1 q2' q3' q4' q5'
    exact big_neg n m w hn hc.1 (by simp only [IntKind.wrap_u64]; omega) (by omega) (by omega)
  · have hm : (n.natAbs : Int) = n := by omega
    rw [hm] at q1 q2 q3 q4 q5
    have q3' : r3 = 0 := by omega
    have q4' : r4 = 0 := by omega
    have q5' : r5 = 0 := by omega
    have q2' : n / 4294967296 = r2 := by omega
    rw [decide_eq_false hn] at q0
    subst q0 q1 q2' q3' q4' q5'
    exact big_pos n w (by omega) hc.2
theorem eq5 (d : Nat) (w : World) (a0 b0 a1 b1 a2 b2 a3 b3 a4 b4 : Int) :
    (Op.equalIn (d + 2) 54 (.agg #[.int .u64 a0, .int .u64 a1, .int .u64 a2, .int .u64 a3, .int .u64 a4]) (.agg #[.int .u64 b0, .int .u64 b1, .int .u64 b2, .int .u64 b3, .int .u64 b4])).run Tryd.prog w = .ok (a0 == b0 && (a1 == b1 && (a2 == b2 && (a3 == b3 && a4 == b4)))) w := by
  have hu : Tryd.prog.underlying 54 = some (.array 5 47) := by kernel_rfl
  have hs : ∀ w, (sizeOf 47).run Tryd.prog w = .ok 1 w := by intro w; go_simp
  have hp : ∀ (i : Nat) (xs : Array Value) (v : Value) (w : World), xs[i]? = some v → (part 47 xs i).run Tryd.prog w = .ok v w := by
    intro i xs v w h; go_simp
  have he : ∀ (x y : Int) w, (Op.equalIn (d + 1) 47 (.int .u64 x) (.int .u64 y)).run Tryd.prog w = .ok (x == y) w := fun x y w => run_equalIn_int w d 47 .u64 .u64 x y (by kernel_rfl)
  rw [Op.equalIn]
  simp only [Sem.run_bind, run_underlying hu, Result.andThen_ok, hs]
  simp [List.range'_succ]
  rw [hp 0 _ (.int .u64 a0) _ rfl, Result.andThen_ok, hp 0 _ (.int .u64 b0) _ rfl, Result.andThen_ok, he, Result.andThen_ok]
  cases (a0 == b0) with
  | false => rfl
  | true =>
  simp only [Bool.true_and, reduceCtorEq, if_false]
  rw [hp 1 _ (.int .u64 a1) _ rfl, Result.andThen_ok, hp 1 _ (.int .u64 b1) _ rfl, Result.andThen_ok, he, Result.andThen_ok]
  cases (a1 == b1) with
  | false => rfl
  | true =>
  simp only [Bool.true_and, reduceCtorEq, if_false]
  rw [hp 2 _ (.int .u64 a2) _ rfl, Result.andThen_ok, hp 2 _ (.int .u64 b2) _ rfl, Result.andThen_ok, he, Result.andThen_ok]
  cases (a2 == b2) with
  | false => rfl
  | true =>
  simp only [Bool.true_and, reduceCtorEq, if_false]
  rw [hp 3 _ (.int .u64 a3) _ rfl, Result.andThen_ok, hp 3 _ (.int .u64 b3) _ rfl, Result.andThen_ok, he, Result.andThen_ok]
  cases (a3 == b3) with
  | false => rfl
  | true =>
  simp only [Bool.true_and, reduceCtorEq, if_false]
  rw [hp 4 _ (.int .u64 a4) _ rfl, Result.andThen_ok, hp 4 _ (.int .u64 b4) _ rfl, Result.andThen_ok, he, Result.andThen_ok]
  cases (a4 == b4) <;> rfl
attribute [local go_sem high] eq5
set_option maxRecDepth 100000 in
set_option maxHeartbeats 1000000 in
theorem told_h2 (a0 a1 a2 a3 a4 : Int) (s : Bool) (w : World) (h2 : ¬ a2 = 0) :
    Calls Tryd.prog 87 #[.agg #[.bool s, .int .u64 a0, .int .u64 a1, .int .u64 a2, .int .u64 a3, .int .u64 a4]] w fun e w' => e = .returned (.tuple #[.int .i64 0, .bool false]) ∧ Below w.heap.size w w' := by
  go_enter Tryd.func87, Tryd.ntmps87
  go_wp2_with fail
  simp [bodyPost, results, Tryd.results87, go_sem]
  try refine ⟨by assumption, ?_⟩
  repeat' (first | with_reducible exact Below.refl _ _ | with_reducible refine drew_ok ?_ _ | with_reducible refine set_ok ?_ ?_ _ | with_reducible refine below_alloc ?_ _)
  all_goals first | omega | trace_state
set_option maxRecDepth 100000 in
set_option maxHeartbeats 1000000 in
theorem told_h3 (a0 a1 a3 a4 : Int) (s : Bool) (w : World) (h3 : ¬ a3 = 0) :
    Calls Tryd.prog 87 #[.agg #[.bool s, .int .u64 a0, .int .u64 a1, .int .u64 0, .int .u64 a3, .int .u64 a4]] w fun e w' => e = .returned (.tuple #[.int .i64 0, .bool false]) ∧ Below w.heap.size w w' := by
  go_enter Tryd.func87, Tryd.ntmps87
  go_wp2_with fail
  simp [bodyPost, results, Tryd.results87, go_sem]
  try refine ⟨by assumption, ?_⟩
  repeat' (first | with_reducible exact Below.refl _ _ | with_reducible refine drew_ok ?_ _ | with_reducible refine set_ok ?_ ?_ _ | with_reducible refine below_alloc ?_ _)
  all_goals first | omega | trace_state
set_option maxRecDepth 100000 in
set_option maxHeartbeats 1000000 in
theorem told_h4 (a0 a1 a4 : Int) (s : Bool) (w : World) (h4 : ¬ a4 = 0) :
    Calls Tryd.prog 87 #[.agg #[.bool s, .int .u64 a0, .int .u64 a1, .int .u64 0, .int .u64 0, .int .u64 a4]] w fun e w' => e = .returned (.tuple #[.int .i64 0, .bool false]) ∧ Below w.heap.size w w' := by
  go_enter Tryd.func87, Tryd.ntmps87
  go_wp2_with fail
  simp [bodyPost, results, Tryd.results87, go_sem]
  try refine ⟨by assumption, ?_⟩
  repeat' (first | with_reducible exact Below.refl _ _ | with_reducible refine drew_ok ?_ _ | with_reducible refine set_ok ?_ ?_ _ | with_reducible refine below_alloc ?_ _)
  all_goals first | omega | trace_state
set_option maxRecDepth 100000 in
set_option maxHeartbeats 1000000 in
theorem told_n (a0 a1 m : Int) (w : World) (l0 : 0 ≤ a0) (u0 : a0 < 4294967296) (l1 : 0 ≤ a1) (u1 : a1 < 4294967296) (hm : a1 * 4294967296 + a0 = m) (lm : 0 ≤ m) (um : m < 9223372036854775808) :
    Calls Tryd.prog 87 #[.agg #[.bool true, .int .u64 a0, .int .u64 a1, .int .u64 0, .int .u64 0, .int .u64 0]] w fun e w' => e = .returned (.tuple #[.int .i64 (-m), .bool true]) ∧ Below w.heap.size w w' := by
  go_enter Tryd.func87, Tryd.ntmps87
  go_wp2_with fail
  simp [bodyPost, results, Tryd.results87, go_sem]
  try refine ⟨by assumption, ?_⟩
  repeat' (first | with_reducible exact Below.refl _ _ | with_reducible refine drew_ok ?_ _ | with_reducible refine set_ok ?_ ?_ _ | with_reducible refine below_alloc ?_ _)
  all_goals first | omega | trace_state
set_option maxRecDepth 100000 in
set_option maxHeartbeats 1000000 in
theorem told_p (a0 a1 m : Int) (w : World) (l0 : 0 ≤ a0) (u0 : a0 < 4294967296) (l1 : 0 ≤ a1) (u1 : a1 < 4294967296) (hm : a1 * 4294967296 + a0 = m) (lm : 0 ≤ m) (um : m < 9223372036854775808) :
    Calls Tryd.prog 87 #[.agg #[.bool false, .int .u64 a0, .int .u64 a1, .int .u64 0, .int .u64 0, .int .u64 0]] w fun e w' => e = .returned (.tuple #[.int .i64 m, .bool true]) ∧ Below w.heap.size w w' := by
  go_enter Tryd.func87, Tryd.ntmps87
  go_wp2_with fail
  simp [bodyPost, results, Tryd.results87, go_sem]
  try refine ⟨by assumption, ?_⟩
  repeat' (first | with_reducible exact Below.refl _ _ | with_reducible refine drew_ok ?_ _ | with_reducible refine set_ok ?_ ?_ _ | with_reducible refine below_alloc ?_ _)
  all_goals first | omega | trace_state
set_option maxRecDepth 100000 in
set_option maxHeartbeats 1000000 in
theorem told_e (a0 a1 m : Int) (w : World) (l0 : 0 ≤ a0) (u0 : a0 < 4294967296) (l1 : 0 ≤ a1) (u1 : a1 < 4294967296) (hm : a1 * 4294967296 + a0 = m) (lm : 0 ≤ m) (um : ¬ m < 9223372036854775808) (em : m = 9223372036854775808) :
    Calls Tryd.prog 87 #[.agg #[.bool true, .int .u64 a0, .int .u64 a1, .int .u64 0, .int .u64 0, .int .u64 0]] w fun e w' => e = .returned (.tuple #[.int .i64 (-9223372036854775808), .bool true]) ∧ Below w.heap.size w w' := by
  go_enter Tryd.func87, Tryd.ntmps87
  go_wp2_with fail
  simp [bodyPost, results, Tryd.results87, go_sem]
  try refine ⟨by assumption, ?_⟩
  repeat' (first | with_reducible exact Below.refl _ _ | with_reducible refine drew_ok ?_ _ | with_reducible refine set_ok ?_ ?_ _ | with_reducible refine below_alloc ?_ _)
  all_goals first | omega | trace_state
set_option maxRecDepth 100000 in
set_option maxHeartbeats 1000000 in
theorem told_f2 (a0 a1 m : Int) (w : World) (l0 : 0 ≤ a0) (u0 : a0 < 4294967296) (l1 : 0 ≤ a1) (u1 : a1 < 4294967296) (hm : a1 * 4294967296 + a0 = m) (lm : 0 ≤ m) (um : ¬ m < 9223372036854775808) (em : m = 9223372036854775808) :
    Calls Tryd.prog 87 #[.agg #[.bool false, .int .u64 a0, .int .u64 a1, .int .u64 0, .int .u64 0, .int .u64 0]] w fun e w' => e = .returned (.tuple #[.int .i64 0, .bool false]) ∧ Below w.heap.size w w' := by
  go_enter Tryd.func87, Tryd.ntmps87
  go_wp2_with fail
  simp [bodyPost, results, Tryd.results87, go_sem]
  try refine ⟨by assumption, ?_⟩
  repeat' (first | with_reducible exact Below.refl _ _ | with_reducible refine drew_ok ?_ _ | with_reducible refine set_ok ?_ ?_ _ | with_reducible refine below_alloc ?_ _)
  all_goals first | omega | trace_state
set_option maxRecDepth 100000 in
set_option maxHeartbeats 1000000 in
theorem told_f (a0 a1 m : Int) (w : World) (l0 : 0 ≤ a0) (u0 : a0 < 4294967296) (l1 : 0 ≤ a1) (u1 : a1 < 4294967296) (hm : a1 * 4294967296 + a0 = m) (lm : 0 ≤ m) (um : ¬ m < 9223372036854775808) (vm : m < 18446744073709551616) (em : ¬ m = 9223372036854775808) :
    Calls Tryd.prog 87 #[.agg #[.bool false, .int .u64 a0, .int .u64 a1, .int .u64 0, .int .u64 0, .int .u64 0]] w fun e w' => e = .returned (.tuple #[.int .i64 0, .bool false]) ∧ Below w.heap.size w w' := by
  go_enter Tryd.func87, Tryd.ntmps87
  go_wp2_with fail
  simp [bodyPost, results, Tryd.results87, go_sem]
  try refine ⟨by assumption, ?_⟩
  repeat' (first | with_reducible exact Below.refl _ _ | with_reducible refine drew_ok ?_ _ | with_reducible refine set_ok ?_ ?_ _ | with_reducible refine below_alloc ?_ _)
  all_goals first | omega | trace_state
set_option maxRecDepth 100000 in
set_option maxHeartbeats 1000000 in
theorem told_g (a0 a1 m : Int) (w : World) (l0 : 0 ≤ a0) (u0 : a0 < 4294967296) (l1 : 0 ≤ a1) (u1 : a1 < 4294967296) (hm : a1 * 4294967296 + a0 = m) (lm : 0 ≤ m) (um : ¬ m < 9223372036854775808) (vm : m < 18446744073709551616) (em : ¬ m = 9223372036854775808) :
    Calls Tryd.prog 87 #[.agg #[.bool true, .int .u64 a0, .int .u64 a1, .int .u64 0, .int .u64 0, .int .u64 0]] w fun e w' => e = .returned (.tuple #[.int .i64 0, .bool false]) ∧ Below w.heap.size w w' := by
  go_enter Tryd.func87, Tryd.ntmps87
  go_wp2_with fail
  simp [bodyPost, results, Tryd.results87, go_sem]
  try refine ⟨by assumption, ?_⟩
  repeat' (first | with_reducible exact Below.refl _ _ | with_reducible refine drew_ok ?_ _ | with_reducible refine set_ok ?_ ?_ _ | with_reducible refine below_alloc ?_ _)
  all_goals first | omega | trace_state
def rf17_told.f (s : Bool) (a0 a1 a2 a3 a4 : Int) : Option (Int × Bool) :=
  if Digs a0 a1 a2 a3 a4 then some (if num a0 a1 a2 a3 a4 < 9223372036854775808 then (if s then -num a0 a1 a2 a3 a4 else num a0 a1 a2 a3 a4, true) else if num a0 a1 a2 a3 a4 = 9223372036854775808 ∧ s = true then (-9223372036854775808, true) else (0, false)) else none
set_option maxRecDepth 100000 in
set_option maxHeartbeats 1000000 in
theorem rf17_told.calls (s : Bool) (a0 a1 a2 a3 a4 : Int) (r1 : Int) (r2 : Bool) (w : World) (h : rf17_told.f s a0 a1 a2 a3 a4 = some (r1, r2)) :
    Calls Tryd.prog 87 #[.agg #[.bool s, .int .u64 a0, .int .u64 a1, .int .u64 a2, .int .u64 a3, .int .u64 a4]] w fun e w' => e = .returned (.tuple #[.int .i64 r1, .bool r2]) ∧ Below w.heap.size w w' := by
  unfold rf17_told.f at h
  by_cases hc : Digs a0 a1 a2 a3 a4
  case neg => rw [if_neg hc] at h; cases h
  rw [if_pos hc] at h
  injection h with h
  obtain ⟨⟨la0, ua0⟩, ⟨la1, ua1⟩, ⟨la2, ua2⟩, ⟨la3, ua3⟩, la4, ua4⟩ := hc
  have big : (¬ a2 = 0 ∨ ¬ a3 = 0 ∨ ¬ a4 = 0) → r1 = 0 ∧ r2 = false := by
    intro hb
    have e : ¬ num a0 a1 a2 a3 a4 < 18446744073709551616 := by simp only [num]; omega
    rw [if_neg (by omega), if_neg (by omega)] at h
    injection h with h1 h2
    exact ⟨h1.symm, h2.symm⟩
  by_cases h2 : a2 = 0
  case neg => obtain ⟨rfl, rfl⟩ := big (.inl h2); exact told_h2 a0 a1 a2 a3 a4 s w h2
  by_cases h3 : a3 = 0
  case neg => obtain ⟨rfl, rfl⟩ := big (.inr (.inl h3)); subst h2; exact told_h3 a0 a1 a3 a4 s w h3
  by_cases h4 : a4 = 0
  case neg => obtain ⟨rfl, rfl⟩ := big (.inr (.inr h4)); subst h2 h3; exact told_h4 a0 a1 a4 s w h4
  clear big
  subst h2 h3 h4
  obtain ⟨m, hm⟩ : ∃ m, a1 * 4294967296 + a0 = m := ⟨_, rfl⟩
  have hn : num a0 a1 0 0 0 = m := by simp only [num]; omega
  rw [hn] at h
  have lm : 0 ≤ m := by omega
  have vm : m < 18446744073709551616 := by omega
  by_cases um : m < 9223372036854775808
  · rw [if_pos um] at h
    injection h with h1 h2
    subst h1 h2
    cases s
    · exact told_p a0 a1 m w la0 ua0 la1 ua1 hm lm um
    · exact told_n a0 a1 m w la0 ua0 la1 ua1 hm lm um
  · rw [if_neg um] at h
    by_cases em : m = 9223372036854775808
    · cases s
      · rw [if_neg (by simp)] at h
        injection h with h1 h2
        subst h1 h2
        exact told_f2 a0 a1 m w la0 ua0 la1 ua1 hm lm um em
      · rw [if_pos ⟨em, rfl⟩] at h
        injection h with h1 h2
        subst h1 h2
        exact told_e a0 a1 m w la0 ua0 la1 ua1 hm lm um em
    · rw [if_neg (by simp [em])] at h
      injection h with h1 h2
      subst h1 h2
      cases s
      · exact told_f a0 a1 m w la0 ua0 la1 ua1 hm lm um vm em
      · exact told_g a0 a1 m w la0 ua0 la1 ua1 hm lm um vm em
end Go.Proofs.YtbodlnoipkommaaDoor.Rc
namespace Go.Proofs.YtbodlnoipkommaaDoor.Q
open Go.Proofs.YtbodlnoipkommaaDoor.Rb Go.Proofs.YtbodlnoipkommaaDoor.Rc
open Go.RowKit Go.Proofs.YtbodlnoipkommaaDoorW.PrintWords Go.Proofs.YtbodlnoipkommaaDoorW.PrintLast Go.Proofs.YtbodlnoipkommaaDoorW.PrintMore
attribute [local go_sem] max2_int min2_int max_two min_two max_three min_three max_four min_four
set_option linter.unusedVariables false
set_option linter.unusedSimpArgs false
def rf17_add.f (a0_0 : Bool) (a0_1 : Int) (a0_2 : Int) (a0_3 : Int) (a0_4 : Int) (a0_5 : Int) (a1_0 : Bool) (a1_1 : Int) (a1_2 : Int) (a1_3 : Int) (a1_4 : Int) (a1_5 : Int) : Option (Bool × Int × Int × Int × Int × Int) := if (a0_0 == a1_0) = true then ((rf17_plus.f a0_1 a0_2 a0_3 a0_4 a0_5 a1_1 a1_2 a1_3 a1_4 a1_5).bind fun bt306 => (some (a0_0, bt306.1, bt306.2.1, bt306.2.2.1, bt306.2.2.2.1, bt306.2.2.2.2))) else ((rf17_under.f a0_1 a0_2 a0_3 a0_4 a0_5 a1_1 a1_2 a1_3 a1_4 a1_5).bind fun t311 => (if t311 = true then ((rf17_minus.f a1_1 a1_2 a1_3 a1_4 a1_5 a0_1 a0_2 a0_3 a0_4 a0_5).bind fun bt312 => (some (a1_0, bt312.1, bt312.2.1, bt312.2.2.1, bt312.2.2.2.1, bt312.2.2.2.2))) else ((rf17_minus.f a0_1 a0_2 a0_3 a0_4 a0_5 a1_1 a1_2 a1_3 a1_4 a1_5).bind fun bt317 => (some (a0_0, bt317.1, bt317.2.1, bt317.2.2.1, bt317.2.2.2.1, bt317.2.2.2.2)))))
def rf17_add.T2 : Bool × List (List Nat × List Nat) := (true, [([], []), ([0], [0]), ([], []), ([2], [2]), ([], []), ([4], [4]), ([3, 5], [3, 5]), ([1, 6], [1, 6]), ([7, 6, 0, 1, 2, 3, 4, 5, 6, 7], [7])])
def rf17_add.B2 : List Nat := [0, 1, 0, 4, 0, 16, 60, 127, 255]
theorem rf17_add.tab2 : rtab .any (opsOf Tryd.f46 2) = rf17_add.T2 := by kernel_rfl
theorem rf17_add.bits2 : waitsOk rf17_add.T2.2 rf17_add.B2 = true := by kernel_rfl
def rf17_add.T4 : Bool × List (List Nat × List Nat) := (true, [([], []), ([0], [0]), ([], []), ([2], [2]), ([], []), ([4], [4]), ([3, 5], [3, 5]), ([1, 6], [1, 6]), ([7, 6, 0, 1, 2, 3, 4, 5, 6, 7], [7])])
def rf17_add.B4 : List Nat := [0, 1, 0, 4, 0, 16, 60, 127, 255]
theorem rf17_add.tab4 : rtab .any (opsOf Tryd.f46 4) = rf17_add.T4 := by kernel_rfl
theorem rf17_add.bits4 : waitsOk rf17_add.T4.2 rf17_add.B4 = true := by kernel_rfl
def rf17_add.T5 : Bool × List (List Nat × List Nat) := (true, [([], []), ([0], [0]), ([], []), ([2], [2]), ([], []), ([4], [4]), ([3, 5], [3, 5]), ([1, 6], [1, 6]), ([7, 6, 0, 1, 2, 3, 4, 5, 6, 7], [7])])
def rf17_add.B5 : List Nat := [0, 1, 0, 4, 0, 16, 60, 127, 255]
theorem rf17_add.tab5 : rtab .any (opsOf Tryd.f46 5) = rf17_add.T5 := by kernel_rfl
theorem rf17_add.bits5 : waitsOk rf17_add.T5.2 rf17_add.B5 = true := by kernel_rfl
set_option maxHeartbeats 8000000 in
set_option maxRecDepth 100000 in
theorem rf17_add.calls (a0_0 : Bool) (a0_1 : Int) (a0_2 : Int) (a0_3 : Int) (a0_4 : Int) (a0_5 : Int) (a1_0 : Bool) (a1_1 : Int) (a1_2 : Int) (a1_3 : Int) (a1_4 : Int) (a1_5 : Int) (r1 : Bool) (r2 : Int) (r3 : Int) (r4 : Int) (r5 : Int) (r6 : Int) (w : World) (h : rf17_add.f a0_0 a0_1 a0_2 a0_3 a0_4 a0_5 a1_0 a1_1 a1_2 a1_3 a1_4 a1_5 = some (r1, r2, r3, r4, r5, r6)) :
  Calls Tryd.prog 46 #[.agg #[.bool a0_0, .int .u64 a0_1, .int .u64 a0_2, .int .u64 a0_3, .int .u64 a0_4, .int .u64 a0_5], .agg #[.bool a1_0, .int .u64 a1_1, .int .u64 a1_2, .int .u64 a1_3, .int .u64 a1_4, .int .u64 a1_5]] w fun e w' => e = .returned (.agg #[.bool r1, .int .u64 r2, .int .u64 r3, .int .u64 r4, .int .u64 r5, .int .u64 r6]) ∧ Below w.heap.size w w' := by
 have hu56 := Tryd.underlying56
 have hu54 := Tryd.underlying54
 have HB := Aside0.mk (Below.refl w.heap.size w)
 have H : (if (a0_0 == a1_0) = true then ((rf17_plus.f a0_1 a0_2 a0_3 a0_4 a0_5 a1_1 a1_2 a1_3 a1_4 a1_5).bind fun bt306 => (some (a0_0, bt306.1, bt306.2.1, bt306.2.2.1, bt306.2.2.2.1, bt306.2.2.2.2))) else ((rf17_under.f a0_1 a0_2 a0_3 a0_4 a0_5 a1_1 a1_2 a1_3 a1_4 a1_5).bind fun t311 => (if t311 = true then ((rf17_minus.f a1_1 a1_2 a1_3 a1_4 a1_5 a0_1 a0_2 a0_3 a0_4 a0_5).bind fun bt312 => (some (a1_0, bt312.1, bt312.2.1, bt312.2.2.1, bt312.2.2.2.1, bt312.2.2.2.2))) else ((rf17_minus.f a0_1 a0_2 a0_3 a0_4 a0_5 a1_1 a1_2 a1_3 a1_4 a1_5).bind fun bt317 => (some (a0_0, bt317.1, bt317.2.1, bt317.2.2.1, bt317.2.2.2.1, bt317.2.2.2.2)))))) = some (r1, r2, r3, r4, r5, r6) := h
 clear h
 by_cases c3 : (a0_0 == a1_0) = true
 ·rw [if_pos c3] at H
  have c3b0 : (a0_0 == a1_0) = true := c3
  (try (have c3b1 : decide (a0_0 = a1_0) = true := by simpa using c3))
  (try (have c3b2 : (a0_0 == a1_0) = true := by simpa using c3))
  clear c3
  replace H := Option.bind_eq_some_iff.mp H
  obtain ⟨⟨t306, t307, t308, t309, t310⟩, A40, H⟩ := H
  replace H : (some (a0_0, t306, t307, t308, t309, t310)) = some (r1, r2, r3, r4, r5, r6) := H
  have A4 := Aside0.mk A40
  clear A40
  simp only [Option.some.injEq, Prod.mk.injEq] at H
  obtain ⟨rfl, rfl, rfl, rfl, rfl, rfl⟩ := H
  go_enter Tryd.func46, Tryd.ntmps46
  try go_wp2_with (first | ((with_reducible refine gate_dst (N := 2) rfl ?_); refine box_event ?hg (N := 2) ?hd (cs := #[.bool a0_0, .int .u64 a0_1, .int .u64 a0_2, .int .u64 a0_3, .int .u64 a0_4, .int .u64 a0_5]) (t := 56) ?hr ?_; (case hd => rfl); (case hg => rfl); (case hr => first | (go_simp; done) | (go_simp; rfl)); intro gb303 hg w5 hbox hb; have n0_ := Aside0.mk (below_step (bw HB.out) hb); have n1_ := Aside0.mk (hbox); have n2_ := Aside0.mk ((by rw [hg]; exact (below_size (bw HB.out)) : w.heap.size ≤ gb303)); have n3_ := Aside0.mk ((by rw [hg]; exact (below_size (bw HB.out)) : w.heap.size ≤ gb303)); clear HB; have HB := n0_; have BK303 := n1_; have GW303 := n2_; have GE303 := n3_; clear n0_ n1_ n2_ n3_; clear hb hbox hg) | ((with_reducible refine gate_dst (N := 3) rfl ?_); refine box_event ?hg (N := 3) ?hd (cs := #[.bool a1_0, .int .u64 a1_1, .int .u64 a1_2, .int .u64 a1_3, .int .u64 a1_4, .int .u64 a1_5]) (t := 56) ?hr ?_; (case hd => rfl); (case hg => rfl); (case hr => first | (go_simp; done) | (go_simp; rfl)); intro gb304 hg w6 hbox hb; have n0_ := Aside0.mk (blk_below (bk BK303.out) hb); have n1_ := Aside0.mk (below_step (by repeat (first | (with_reducible first | exact HB.out | apply below_alloc | apply pw_below_drewN | apply below_drew1 | refine below_set ?_ GE303.out) | exact HB.out)) hb); have n2_ := Aside0.mk (hbox); have n3_ := Aside0.mk ((by rw [hg]; exact (below_size (by repeat (first | (with_reducible first | exact HB.out | apply below_alloc | apply pw_below_drewN | apply below_drew1 | refine below_set ?_ GE303.out) | exact HB.out))) : w.heap.size ≤ gb304)); have n4_ := Aside0.mk ((by rw [hg]; exact (below_size (by repeat (first | (with_reducible first | exact HB.out | apply below_alloc | apply pw_below_drewN | apply below_drew1 | refine below_set ?_ GE303.out) | exact HB.out))) : w.heap.size ≤ gb304)); have n5_ := Aside0.mk ((by rw [hg]; exact Nat.ne_of_lt (blk_lt (g := gb303) (o := .cells #[.bool a0_0, .int .u64 a0_1, .int .u64 a0_2, .int .u64 a0_3, .int .u64 a0_4, .int .u64 a0_5] 56 (0, 0)) (bk BK303.out)) : gb303 ≠ gb304)); have n6_ := Aside0.mk ((by rw [hg]; exact Nat.ne_of_gt (blk_lt (g := gb303) (o := .cells #[.bool a0_0, .int .u64 a0_1, .int .u64 a0_2, .int .u64 a0_3, .int .u64 a0_4, .int .u64 a0_5] 56 (0, 0)) (bk BK303.out)) : gb304 ≠ gb303)); clear BK303; clear HB; have BK303 := n0_; have HB := n1_; have BK304 := n2_; have GW304 := n3_; have GE304 := n4_; have NB303_304 := n5_; have NB304_303 := n6_; clear n0_ n1_ n2_ n3_ n4_ n5_ n6_; clear hb hbox hg) | ((with_reducible refine gate_dst (N := 4) rfl ?_); refine box_event ?hg (N := 4) ?hd (cs := #[.bool false, .int .u64 0, .int .u64 0, .int .u64 0, .int .u64 0, .int .u64 0]) (t := 56) ?hr ?_; (case hd => rfl); (case hg => rfl); (case hr => first | (go_simp; done) | (go_simp; rfl)); intro gb305 hg w7 hbox hb; have n0_ := Aside0.mk (blk_below (bk BK303.out) hb); have n1_ := Aside0.mk (blk_below (bk BK304.out) hb); have n2_ := Aside0.mk (below_step (by repeat (first | (with_reducible first | exact HB.out | apply below_alloc | apply pw_below_drewN | apply below_drew1 | refine below_set ?_ (Aside0.out (by assumption))) | exact HB.out)) hb); have n3_ := Aside0.mk (hbox); have n4_ := Aside0.mk ((by rw [hg]; exact (below_size (by repeat (first | (with_reducible first | exact HB.out | apply below_alloc | apply pw_below_drewN | apply below_drew1 | refine below_set ?_ (Aside0.out (by assumption))) | exact HB.out))) : w.heap.size ≤ gb305)); have n5_ := Aside0.mk ((by rw [hg]; exact (below_size (by repeat (first | (with_reducible first | exact HB.out | apply below_alloc | apply pw_below_drewN | apply below_drew1 | refine below_set ?_ (Aside0.out (by assumption))) | exact HB.out))) : w.heap.size ≤ gb305)); have n6_ := Aside0.mk ((by rw [hg]; exact Nat.ne_of_lt (blk_lt (g := gb303) (o := .cells #[.bool a0_0, .int .u64 a0_1, .int .u64 a0_2, .int .u64 a0_3, .int .u64 a0_4, .int .u64 a0_5] 56 (0, 0)) (bk BK303.out)) : gb303 ≠ gb305)); have n7_ := Aside0.mk ((by rw [hg]; exact Nat.ne_of_gt (blk_lt (g := gb303) (o := .cells #[.bool a0_0, .int .u64 a0_1, .int .u64 a0_2, .int .u64 a0_3, .int .u64 a0_4, .int .u64 a0_5] 56 (0, 0)) (bk BK303.out)) : gb305 ≠ gb303)); have n8_ := Aside0.mk ((by rw [hg]; exact Nat.ne_of_lt (blk_lt (g := gb304) (o := .cells #[.bool a1_0, .int .u64 a1_1, .int .u64 a1_2, .int .u64 a1_3, .int .u64 a1_4, .int .u64 a1_5] 56 (0, 0)) (bk BK304.out)) : gb304 ≠ gb305)); have n9_ := Aside0.mk ((by rw [hg]; exact Nat.ne_of_gt (blk_lt (g := gb304) (o := .cells #[.bool a1_0, .int .u64 a1_1, .int .u64 a1_2, .int .u64 a1_3, .int .u64 a1_4, .int .u64 a1_5] 56 (0, 0)) (bk BK304.out)) : gb305 ≠ gb304)); clear BK303; clear BK304; clear HB; have BK303 := n0_; have BK304 := n1_; have HB := n2_; have BK305 := n3_; have GW305 := n4_; have GE305 := n5_; have NB303_305 := n6_; have NB305_303 := n7_; have NB304_305 := n8_; have NB305_304 := n9_; clear n0_ n1_ n2_ n3_ n4_ n5_ n6_ n7_ n8_ n9_; clear hb hbox hg; have hnb8 := NB303_304.out; have hnc8 := NB304_303.out; have hnb9 := NB303_305.out; have hnc9 := NB305_303.out; have hcz10_0 : w7.cell? ⟨gb303, 0, none⟩ = some (.bool a0_0) := (blk_cell BK303.out 0).trans rfl; have hcz10_1 : w7.cell? ⟨gb303, 1, none⟩ = some (.int .u64 a0_1) := (blk_cell BK303.out 1).trans rfl; have hcz10_2 : w7.cell? ⟨gb303, 2, none⟩ = some (.int .u64 a0_2) := (blk_cell BK303.out 2).trans rfl; have hcz10_3 : w7.cell? ⟨gb303, 3, none⟩ = some (.int .u64 a0_3) := (blk_cell BK303.out 3).trans rfl; have hcz10_4 : w7.cell? ⟨gb303, 4, none⟩ = some (.int .u64 a0_4) := (blk_cell BK303.out 4).trans rfl; have hcz10_5 : w7.cell? ⟨gb303, 5, none⟩ = some (.int .u64 a0_5) := (blk_cell BK303.out 5).trans rfl; have hfz10_0 := blk_frozen BK303.out 0; have hfz10_1 := blk_frozen BK303.out 1; have hfz10_2 := blk_frozen BK303.out 2; have hfz10_3 := blk_frozen BK303.out 3; have hfz10_4 := blk_frozen BK303.out 4; have hfz10_5 := blk_frozen BK303.out 5; have hnb11 := NB304_305.out; have hnc11 := NB305_304.out; have hcz12_0 : w7.cell? ⟨gb304, 0, none⟩ = some (.bool a1_0) := (blk_cell BK304.out 0).trans rfl; have hcz12_1 : w7.cell? ⟨gb304, 1, none⟩ = some (.int .u64 a1_1) := (blk_cell BK304.out 1).trans rfl; have hcz12_2 : w7.cell? ⟨gb304, 2, none⟩ = some (.int .u64 a1_2) := (blk_cell BK304.out 2).trans rfl; have hcz12_3 : w7.cell? ⟨gb304, 3, none⟩ = some (.int .u64 a1_3) := (blk_cell BK304.out 3).trans rfl; have hcz12_4 : w7.cell? ⟨gb304, 4, none⟩ = some (.int .u64 a1_4) := (blk_cell BK304.out 4).trans rfl; have hcz12_5 : w7.cell? ⟨gb304, 5, none⟩ = some (.int .u64 a1_5) := (blk_cell BK304.out 5).trans rfl; have hfz12_0 := blk_frozen BK304.out 0; have hfz12_1 := blk_frozen BK304.out 1; have hfz12_2 := blk_frozen BK304.out 2; have hfz12_3 := blk_frozen BK304.out 3; have hfz12_4 := blk_frozen BK304.out 4; have hfz12_5 := blk_frozen BK304.out 5))
  have n0_ := Aside0.mk (blk_drew BK303.out)
  have n1_ := Aside0.mk (blk_drew BK304.out)
  have n2_ := Aside0.mk (blk_drew BK305.out)
  have n3_ := Aside0.mk (below_drew1 HB.out)
  clear BK303
  clear BK304
  clear BK305
  clear HB
  have BK303 := n0_
  have BK304 := n1_
  have BK305 := n2_
  have HB := n3_
  clear n0_ n1_ n2_ n3_
  refine start_ (n := 9) (S := fun w' => w'.cell? ⟨gb303, 0, none⟩ = some (.bool a0_0) ∧ w'.cell? ⟨gb303, 1, none⟩ = some (.int .u64 a0_1) ∧ w'.cell? ⟨gb303, 2, none⟩ = some (.int .u64 a0_2) ∧ w'.cell? ⟨gb303, 3, none⟩ = some (.int .u64 a0_3) ∧ w'.cell? ⟨gb303, 4, none⟩ = some (.int .u64 a0_4) ∧ w'.cell? ⟨gb303, 5, none⟩ = some (.int .u64 a0_5) ∧ w'.cell? ⟨gb304, 0, none⟩ = some (.bool a1_0) ∧ w'.cell? ⟨gb304, 1, none⟩ = some (.int .u64 a1_1) ∧ w'.cell? ⟨gb304, 2, none⟩ = some (.int .u64 a1_2) ∧ w'.cell? ⟨gb304, 3, none⟩ = some (.int .u64 a1_3) ∧ w'.cell? ⟨gb304, 4, none⟩ = some (.int .u64 a1_4) ∧ w'.cell? ⟨gb304, 5, none⟩ = some (.int .u64 a1_5)) (ds := []) #[false, false, false, false, false, false, false, false, false] (by kernel_rfl) rfl rfl ⟨(blk_cell BK303.out 0).trans rfl, (blk_cell BK303.out 1).trans rfl, (blk_cell BK303.out 2).trans rfl, (blk_cell BK303.out 3).trans rfl, (blk_cell BK303.out 4).trans rfl, (blk_cell BK303.out 5).trans rfl, (blk_cell BK304.out 0).trans rfl, (blk_cell BK304.out 1).trans rfl, (blk_cell BK304.out 2).trans rfl, (blk_cell BK304.out 3).trans rfl, (blk_cell BK304.out 4).trans rfl, (blk_cell BK304.out 5).trans rfl⟩ (fun hHeld => ?_); refine with_tabW rf17_add.tab2 rf17_add.bits2 (fun HT_ HW_ => ?_)
  generalize w7.drew = w13 at BK303 BK304 BK305 HB hHeld ⊢
  refine pure_ (i := 0) (N := some 11) (v := ?_) (a' := ?_) #[true, false, false, false, false, false, false, false, false] rfl rfl (any_of HT_.out (by kernel_rfl)) (fun _ _ _ h => h) (Or.inl ⟨by rfl, ?_⟩) ?_ ?_
  rotate_left
  ·intro w'
   go_simp
   with_reducible rfl
  rotate_left
  ·simp only [Act.put, List.setIfInBounds_toArray, List.set_cons_zero, List.set_cons_succ, i64_w, i32_w]
   rfl
  refine pure_ (i := 2) (N := some 13) (v := ?_) (a' := ?_) #[true, false, true, false, false, false, false, false, false] rfl rfl (any_of HT_.out (by kernel_rfl)) (fun _ _ _ h => h) (Or.inl ⟨by rfl, ?_⟩) ?_ ?_
  rotate_left
  ·intro w'
   go_simp
   with_reducible rfl
  rotate_left
  ·simp only [Act.put, List.setIfInBounds_toArray, List.set_cons_zero, List.set_cons_succ, i64_w, i32_w]
   rfl
  refine pure_ (i := 4) (N := some 15) (v := ?_) (a' := ?_) #[true, false, true, false, true, false, false, false, false] rfl rfl (any_of HT_.out (by kernel_rfl)) (fun _ _ _ h => h) (Or.inl ⟨by rfl, ?_⟩) ?_ ?_
  rotate_left
  ·intro w'
   go_simp
   with_reducible rfl
  rotate_left
  ·simp only [Act.put, List.setIfInBounds_toArray, List.set_cons_zero, List.set_cons_succ, i64_w, i32_w]
   rfl
  refine take_ (i := 1) (N := some 12) (v := ?_) (a' := ?_) #[true, true, true, false, true, false, false, false, false] rfl rfl (take_ofW HT_.out HW_.out (by kernel_rfl)) (fun _ _ _ h => h) (Or.inl ⟨by rfl, ?_⟩) hHeld ?_ ?_
  rotate_left
  ·rintro w' ⟨s0, s1, s2, s3, s4, s5, s6, s7, s8, s9, s10, s11⟩
   go_simp
   with_reducible rfl
  rotate_left
  ·simp only [Act.put, List.setIfInBounds_toArray, List.set_cons_zero, List.set_cons_succ, i64_w, i32_w]
   rfl
  refine take_ (i := 3) (N := some 14) (v := ?_) (a' := ?_) #[true, true, true, true, true, false, false, false, false] rfl rfl (take_ofW HT_.out HW_.out (by kernel_rfl)) (fun _ _ _ h => h) (Or.inl ⟨by rfl, ?_⟩) hHeld ?_ ?_
  rotate_left
  ·rintro w' ⟨s0, s1, s2, s3, s4, s5, s6, s7, s8, s9, s10, s11⟩
   go_simp
   with_reducible rfl
  rotate_left
  ·simp only [Act.put, List.setIfInBounds_toArray, List.set_cons_zero, List.set_cons_succ, i64_w, i32_w]
   rfl
  refine take_ (i := 5) (N := some 16) (v := ?_) (a' := ?_) #[true, true, true, true, true, true, false, false, false] rfl rfl (take_ofW HT_.out HW_.out (by kernel_rfl)) (fun _ _ _ h => h) (Or.inl ⟨by rfl, ?_⟩) hHeld ?_ ?_
  rotate_left
  ·rintro w' ⟨s0, s1, s2, s3, s4, s5, s6, s7, s8, s9, s10, s11⟩
   go_simp
   with_reducible rfl
  rotate_left
  ·simp only [Act.put, List.setIfInBounds_toArray, List.set_cons_zero, List.set_cons_succ, i64_w, i32_w]
   rfl
  refine one_ (i := 6) (N := some 17) #[true, true, true, true, true, true, true, false, false] rfl rfl (one_of HT_.out (by kernel_rfl)) (by decide) (fun K hK => ?_)
  refine goes_ Tryd.func69 (by kernel_rfl) rfl #[.agg #[.int .u64 a0_1, .int .u64 a0_2, .int .u64 a0_3, .int .u64 a0_4, .int .u64 a0_5], .agg #[.int .u64 a1_1, .int .u64 a1_2, .int .u64 a1_3, .int .u64 a1_4, .int .u64 a1_5]] (by rfl) rfl rfl (by (try simp only [List.map_toArray, List.map_cons, List.map_nil]); first | done | rfl | (simp only [List.length_drop, List.length_take]; rfl)) ?_
  with_reducible refine (rf17_plus.calls a0_1 a0_2 a0_3 a0_4 a0_5 a1_1 a1_2 a1_3 a1_4 a1_5 t306 t307 t308 t309 t310 _ A4.out).mono ?_
  rintro e w14 ⟨rfl, hb⟩
  refine ⟨_, rfl, ?_⟩
  have n0_ := Aside0.mk (blk_below (bk BK303.out) hb)
  have n1_ := Aside0.mk (blk_below (bk BK304.out) hb)
  have n2_ := Aside0.mk (blk_below (bk BK305.out) hb)
  have n3_ := Aside0.mk (below_step (by repeat (first | (with_reducible first | exact HB.out | apply below_alloc | apply pw_below_drewN | apply below_drew1 | refine below_set ?_ (Aside0.out (by assumption))) | exact HB.out)) hb)
  clear BK303
  clear BK304
  clear BK305
  clear HB
  have BK303 := n0_
  have BK304 := n1_
  have BK305 := n2_
  have HB := n3_
  clear n0_ n1_ n2_ n3_
  (try clear hb)
  (try clear hb2)
  (try clear hk)
  (try clear hi)
  refine hK.out _ _ ⟨(blk_cell BK303.out 0).trans rfl, (blk_cell BK303.out 1).trans rfl, (blk_cell BK303.out 2).trans rfl, (blk_cell BK303.out 3).trans rfl, (blk_cell BK303.out 4).trans rfl, (blk_cell BK303.out 5).trans rfl, (blk_cell BK304.out 0).trans rfl, (blk_cell BK304.out 1).trans rfl, (blk_cell BK304.out 2).trans rfl, (blk_cell BK304.out 3).trans rfl, (blk_cell BK304.out 4).trans rfl, (blk_cell BK304.out 5).trans rfl⟩ (fun hHeld => ?_)
  clear hK K
  refine norm_ (a' := ?_) ?_ ?_
  rotate_left
  ·show Act.put _ (some 17) _ = _
   simp only [Act.put, List.setIfInBounds_toArray, List.set_cons_zero, List.set_cons_succ, i64_w, i32_w]
   rfl
  refine pure_ (i := 7) (N := some 18) (v := ?_) (a' := ?_) #[true, true, true, true, true, true, true, true, false] rfl rfl (any_of HT_.out (by kernel_rfl)) (fun _ _ _ h => h) (Or.inl ⟨by rfl, ?_⟩) ?_ ?_
  rotate_left
  ·intro w'
   go_simp
   with_reducible rfl
  rotate_left
  ·simp only [Act.put, List.setIfInBounds_toArray, List.set_cons_zero, List.set_cons_succ, i64_w, i32_w]
   rfl
  refine one_ (i := 8) (N := none) #[true, true, true, true, true, true, true, true, true] rfl rfl (one_of HT_.out (by kernel_rfl)) (by decide) (fun K hK => ?_)
  have hs15 : w14.cell? ⟨gb305, 0, none⟩ = some (.bool false) := (blk_cell BK305.out 0).trans rfl
  have hfs15 := blk_frozen BK305.out 0
  have hns15_0 := NB303_305.out
  have hns15_1 := NB304_305.out
  have hms15_0 := NB305_303.out
  have hms15_1 := NB305_304.out
  have hs16 : w14.cell? ⟨gb305, 1, none⟩ = some (.int .u64 0) := (blk_cell BK305.out 1).trans rfl
  have hfs16 := blk_frozen BK305.out 1
  have hns16_0 := NB303_305.out
  have hns16_1 := NB304_305.out
  have hms16_0 := NB305_303.out
  have hms16_1 := NB305_304.out
  have hs17 : w14.cell? ⟨gb305, 2, none⟩ = some (.int .u64 0) := (blk_cell BK305.out 2).trans rfl
  have hfs17 := blk_frozen BK305.out 2
  have hns17_0 := NB303_305.out
  have hns17_1 := NB304_305.out
  have hms17_0 := NB305_303.out
  have hms17_1 := NB305_304.out
  have hs18 : w14.cell? ⟨gb305, 3, none⟩ = some (.int .u64 0) := (blk_cell BK305.out 3).trans rfl
  have hfs18 := blk_frozen BK305.out 3
  have hns18_0 := NB303_305.out
  have hns18_1 := NB304_305.out
  have hms18_0 := NB305_303.out
  have hms18_1 := NB305_304.out
  have hs19 : w14.cell? ⟨gb305, 4, none⟩ = some (.int .u64 0) := (blk_cell BK305.out 4).trans rfl
  have hfs19 := blk_frozen BK305.out 4
  have hns19_0 := NB303_305.out
  have hns19_1 := NB304_305.out
  have hms19_0 := NB305_303.out
  have hms19_1 := NB305_304.out
  have hs20 : w14.cell? ⟨gb305, 5, none⟩ = some (.int .u64 0) := (blk_cell BK305.out 5).trans rfl
  have hfs20 := blk_frozen BK305.out 5
  have hns20_0 := NB303_305.out
  have hns20_1 := NB304_305.out
  have hms20_0 := NB305_303.out
  have hms20_1 := NB305_304.out
  refine skip_ (w1 := ?_) (by rfl) rfl ?_ ?_
  rotate_left
  ·go_simp
   rfl
  refine hK.out _ _ ⟨((cell_far (p := ⟨gb305, _, none⟩) NB303_305.out _).trans (((cell_far (p := ⟨gb305, _, none⟩) NB303_305.out _).trans (((cell_far (p := ⟨gb305, _, none⟩) NB303_305.out _).trans (((cell_far (p := ⟨gb305, _, none⟩) NB303_305.out _).trans (((cell_far (p := ⟨gb305, _, none⟩) NB303_305.out _).trans (((cell_far (p := ⟨gb305, _, none⟩) NB303_305.out _).trans (hHeld.1)))))))))))), ((cell_far (p := ⟨gb305, _, none⟩) NB303_305.out _).trans (((cell_far (p := ⟨gb305, _, none⟩) NB303_305.out _).trans (((cell_far (p := ⟨gb305, _, none⟩) NB303_305.out _).trans (((cell_far (p := ⟨gb305, _, none⟩) NB303_305.out _).trans (((cell_far (p := ⟨gb305, _, none⟩) NB303_305.out _).trans (((cell_far (p := ⟨gb305, _, none⟩) NB303_305.out _).trans (hHeld.2.1)))))))))))), ((cell_far (p := ⟨gb305, _, none⟩) NB303_305.out _).trans (((cell_far (p := ⟨gb305, _, none⟩) NB303_305.out _).trans (((cell_far (p := ⟨gb305, _, none⟩) NB303_305.out _).trans (((cell_far (p := ⟨gb305, _, none⟩) NB303_305.out _).trans (((cell_far (p := ⟨gb305, _, none⟩) NB303_305.out _).trans (((cell_far (p := ⟨gb305, _, none⟩) NB303_305.out _).trans (hHeld.2.2.1)))))))))))), ((cell_far (p := ⟨gb305, _, none⟩) NB303_305.out _).trans (((cell_far (p := ⟨gb305, _, none⟩) NB303_305.out _).trans (((cell_far (p := ⟨gb305, _, none⟩) NB303_305.out _).trans (((cell_far (p := ⟨gb305, _, none⟩) NB303_305.out _).trans (((cell_far (p := ⟨gb305, _, none⟩) NB303_305.out _).trans (((cell_far (p := ⟨gb305, _, none⟩) NB303_305.out _).trans (hHeld.2.2.2.1)))))))))))), ((cell_far (p := ⟨gb305, _, none⟩) NB303_305.out _).trans (((cell_far (p := ⟨gb305, _, none⟩) NB303_305.out _).trans (((cell_far (p := ⟨gb305, _, none⟩) NB303_305.out _).trans (((cell_far (p := ⟨gb305, _, none⟩) NB303_305.out _).trans (((cell_far (p := ⟨gb305, _, none⟩) NB303_305.out _).trans (((cell_far (p := ⟨gb305, _, none⟩) NB303_305.out _).trans (hHeld.2.2.2.2.1)))))))))))), ((cell_far (p := ⟨gb305, _, none⟩) NB303_305.out _).trans (((cell_far (p := ⟨gb305, _, none⟩) NB303_305.out _).trans (((cell_far (p := ⟨gb305, _, none⟩) NB303_305.out _).trans (((cell_far (p := ⟨gb305, _, none⟩) NB303_305.out _).trans (((cell_far (p := ⟨gb305, _, none⟩) NB303_305.out _).trans (((cell_far (p := ⟨gb305, _, none⟩) NB303_305.out _).trans (hHeld.2.2.2.2.2.1)))))))))))), ((cell_far (p := ⟨gb305, _, none⟩) NB304_305.out _).trans (((cell_far (p := ⟨gb305, _, none⟩) NB304_305.out _).trans (((cell_far (p := ⟨gb305, _, none⟩) NB304_305.out _).trans (((cell_far (p := ⟨gb305, _, none⟩) NB304_305.out _).trans (((cell_far (p := ⟨gb305, _, none⟩) NB304_305.out _).trans (((cell_far (p := ⟨gb305, _, none⟩) NB304_305.out _).trans (hHeld.2.2.2.2.2.2.1)))))))))))), ((cell_far (p := ⟨gb305, _, none⟩) NB304_305.out _).trans (((cell_far (p := ⟨gb305, _, none⟩) NB304_305.out _).trans (((cell_far (p := ⟨gb305, _, none⟩) NB304_305.out _).trans (((cell_far (p := ⟨gb305, _, none⟩) NB304_305.out _).trans (((cell_far (p := ⟨gb305, _, none⟩) NB304_305.out _).trans (((cell_far (p := ⟨gb305, _, none⟩) NB304_305.out _).trans (hHeld.2.2.2.2.2.2.2.1)))))))))))), ((cell_far (p := ⟨gb305, _, none⟩) NB304_305.out _).trans (((cell_far (p := ⟨gb305, _, none⟩) NB304_305.out _).trans (((cell_far (p := ⟨gb305, _, none⟩) NB304_305.out _).trans (((cell_far (p := ⟨gb305, _, none⟩) NB304_305.out _).trans (((cell_far (p := ⟨gb305, _, none⟩) NB304_305.out _).trans (((cell_far (p := ⟨gb305, _, none⟩) NB304_305.out _).trans (hHeld.2.2.2.2.2.2.2.2.1)))))))))))), ((cell_far (p := ⟨gb305, _, none⟩) NB304_305.out _).trans (((cell_far (p := ⟨gb305, _, none⟩) NB304_305.out _).trans (((cell_far (p := ⟨gb305, _, none⟩) NB304_305.out _).trans (((cell_far (p := ⟨gb305, _, none⟩) NB304_305.out _).trans (((cell_far (p := ⟨gb305, _, none⟩) NB304_305.out _).trans (((cell_far (p := ⟨gb305, _, none⟩) NB304_305.out _).trans (hHeld.2.2.2.2.2.2.2.2.2.1)))))))))))), ((cell_far (p := ⟨gb305, _, none⟩) NB304_305.out _).trans (((cell_far (p := ⟨gb305, _, none⟩) NB304_305.out _).trans (((cell_far (p := ⟨gb305, _, none⟩) NB304_305.out _).trans (((cell_far (p := ⟨gb305, _, none⟩) NB304_305.out _).trans (((cell_far (p := ⟨gb305, _, none⟩) NB304_305.out _).trans (((cell_far (p := ⟨gb305, _, none⟩) NB304_305.out _).trans (hHeld.2.2.2.2.2.2.2.2.2.2.1)))))))))))), ((cell_far (p := ⟨gb305, _, none⟩) NB304_305.out _).trans (((cell_far (p := ⟨gb305, _, none⟩) NB304_305.out _).trans (((cell_far (p := ⟨gb305, _, none⟩) NB304_305.out _).trans (((cell_far (p := ⟨gb305, _, none⟩) NB304_305.out _).trans (((cell_far (p := ⟨gb305, _, none⟩) NB304_305.out _).trans (((cell_far (p := ⟨gb305, _, none⟩) NB304_305.out _).trans (hHeld.2.2.2.2.2.2.2.2.2.2.2))))))))))))⟩ (fun hHeld => ?_)
  clear hK K
  refine done_ (done_of HT_.out (by kernel_rfl)) ?_
  try go_wp2
  refine bodyPost_ret (results_cell_row rfl _ _ gb305 56 #[.bool a0_0, .int .u64 t306, .int .u64 t307, .int .u64 t308, .int .u64 t309, .int .u64 t310] (0, 0) _ rfl (by (with_reducible repeat first | apply blk_drewN | apply blk_drew | apply blk_alloc); refine blk_put (cs := #[.bool a0_0, .int .u64 t306, .int .u64 t307, .int .u64 t308, .int .u64 t309, .int .u64 0]) ?_ 5 _ rfl; refine blk_put (cs := #[.bool a0_0, .int .u64 t306, .int .u64 t307, .int .u64 t308, .int .u64 0, .int .u64 0]) ?_ 4 _ rfl; refine blk_put (cs := #[.bool a0_0, .int .u64 t306, .int .u64 t307, .int .u64 0, .int .u64 0, .int .u64 0]) ?_ 3 _ rfl; refine blk_put (cs := #[.bool a0_0, .int .u64 t306, .int .u64 0, .int .u64 0, .int .u64 0, .int .u64 0]) ?_ 2 _ rfl; refine blk_put (cs := #[.bool a0_0, .int .u64 0, .int .u64 0, .int .u64 0, .int .u64 0, .int .u64 0]) ?_ 1 _ rfl; refine blk_put (cs := #[.bool false, .int .u64 0, .int .u64 0, .int .u64 0, .int .u64 0, .int .u64 0]) ?_ 0 _ rfl; (with_reducible repeat first | apply blk_drewN | apply blk_drew | apply blk_alloc); exact BK305.out) Tryd.underlying56 rfl (by kernel_rfl)) rfl ?_
  exact ⟨by first | rfl | (simp [errW_none, errW_some] <;> rfl) | (simp [*, errW_none, errW_some] <;> rfl), by repeat (first | (with_reducible first | exact HB.out | apply below_alloc | apply pw_below_drewN | apply below_drew1 | refine below_set ?_ (Aside0.out (by assumption))) | exact HB.out)⟩
 ·rw [if_neg c3] at H
  have c3b0 : (a0_0 == a1_0) = false := by simpa using c3
  (try (have c3b1 : decide (a0_0 = a1_0) = false := by simpa using c3))
  (try (have c3b2 : (a0_0 == a1_0) = false := by simpa using c3))
  (try (have c3b3 : ¬ (a0_0 = a1_0) := by simpa using c3))
  clear c3
  replace H := Option.bind_eq_some_iff.mp H
  obtain ⟨t311, A210, H⟩ := H
  replace H : (if t311 = true then ((rf17_minus.f a1_1 a1_2 a1_3 a1_4 a1_5 a0_1 a0_2 a0_3 a0_4 a0_5).bind fun bt312 => (some (a1_0, bt312.1, bt312.2.1, bt312.2.2.1, bt312.2.2.2.1, bt312.2.2.2.2))) else ((rf17_minus.f a0_1 a0_2 a0_3 a0_4 a0_5 a1_1 a1_2 a1_3 a1_4 a1_5).bind fun bt317 => (some (a0_0, bt317.1, bt317.2.1, bt317.2.2.1, bt317.2.2.2.1, bt317.2.2.2.2)))) = some (r1, r2, r3, r4, r5, r6) := H
  have A21 := Aside0.mk A210
  clear A210
  by_cases c22 : t311 = true
  ·subst c22
   have H1 : ((rf17_minus.f a1_1 a1_2 a1_3 a1_4 a1_5 a0_1 a0_2 a0_3 a0_4 a0_5).bind fun bt312 => (some (a1_0, bt312.1, bt312.2.1, bt312.2.2.1, bt312.2.2.2.1, bt312.2.2.2.2))) = some (r1, r2, r3, r4, r5, r6) := by rw [if_pos rfl] at H; exact H
   clear H
   have H := H1
   clear H1
   replace H := Option.bind_eq_some_iff.mp H
   obtain ⟨⟨t312, t313, t314, t315, t316⟩, A230, H⟩ := H
   replace H : (some (a1_0, t312, t313, t314, t315, t316)) = some (r1, r2, r3, r4, r5, r6) := H
   have A23 := Aside0.mk A230
   clear A230
   simp only [Option.some.injEq, Prod.mk.injEq] at H
   obtain ⟨rfl, rfl, rfl, rfl, rfl, rfl⟩ := H
   go_enter Tryd.func46, Tryd.ntmps46
   try go_wp2_with (first | ((with_reducible refine gate_dst (N := 2) rfl ?_); refine box_event ?hg (N := 2) ?hd (cs := #[.bool a0_0, .int .u64 a0_1, .int .u64 a0_2, .int .u64 a0_3, .int .u64 a0_4, .int .u64 a0_5]) (t := 56) ?hr ?_; (case hd => rfl); (case hg => rfl); (case hr => first | (go_simp; done) | (go_simp; rfl)); intro gb303 hg w24 hbox hb; have n0_ := Aside0.mk (below_step (bw HB.out) hb); have n1_ := Aside0.mk (hbox); have n2_ := Aside0.mk ((by rw [hg]; exact (below_size (bw HB.out)) : w.heap.size ≤ gb303)); have n3_ := Aside0.mk ((by rw [hg]; exact (below_size (bw HB.out)) : w.heap.size ≤ gb303)); clear HB; have HB := n0_; have BK303 := n1_; have GW303 := n2_; have GE303 := n3_; clear n0_ n1_ n2_ n3_; clear hb hbox hg) | ((with_reducible refine gate_dst (N := 3) rfl ?_); refine box_event ?hg (N := 3) ?hd (cs := #[.bool a1_0, .int .u64 a1_1, .int .u64 a1_2, .int .u64 a1_3, .int .u64 a1_4, .int .u64 a1_5]) (t := 56) ?hr ?_; (case hd => rfl); (case hg => rfl); (case hr => first | (go_simp; done) | (go_simp; rfl)); intro gb304 hg w25 hbox hb; have n0_ := Aside0.mk (blk_below (bk BK303.out) hb); have n1_ := Aside0.mk (below_step (by repeat (first | (with_reducible first | exact HB.out | apply below_alloc | apply pw_below_drewN | apply below_drew1 | refine below_set ?_ GE303.out) | exact HB.out)) hb); have n2_ := Aside0.mk (hbox); have n3_ := Aside0.mk ((by rw [hg]; exact (below_size (by repeat (first | (with_reducible first | exact HB.out | apply below_alloc | apply pw_below_drewN | apply below_drew1 | refine below_set ?_ GE303.out) | exact HB.out))) : w.heap.size ≤ gb304)); have n4_ := Aside0.mk ((by rw [hg]; exact (below_size (by repeat (first | (with_reducible first | exact HB.out | apply below_alloc | apply pw_below_drewN | apply below_drew1 | refine below_set ?_ GE303.out) | exact HB.out))) : w.heap.size ≤ gb304)); have n5_ := Aside0.mk ((by rw [hg]; exact Nat.ne_of_lt (blk_lt (g := gb303) (o := .cells #[.bool a0_0, .int .u64 a0_1, .int .u64 a0_2, .int .u64 a0_3, .int .u64 a0_4, .int .u64 a0_5] 56 (0, 0)) (bk BK303.out)) : gb303 ≠ gb304)); have n6_ := Aside0.mk ((by rw [hg]; exact Nat.ne_of_gt (blk_lt (g := gb303) (o := .cells #[.bool a0_0, .int .u64 a0_1, .int .u64 a0_2, .int .u64 a0_3, .int .u64 a0_4, .int .u64 a0_5] 56 (0, 0)) (bk BK303.out)) : gb304 ≠ gb303)); clear BK303; clear HB; have BK303 := n0_; have HB := n1_; have BK304 := n2_; have GW304 := n3_; have GE304 := n4_; have NB303_304 := n5_; have NB304_303 := n6_; clear n0_ n1_ n2_ n3_ n4_ n5_ n6_; clear hb hbox hg) | ((with_reducible refine gate_dst (N := 4) rfl ?_); refine box_event ?hg (N := 4) ?hd (cs := #[.bool false, .int .u64 0, .int .u64 0, .int .u64 0, .int .u64 0, .int .u64 0]) (t := 56) ?hr ?_; (case hd => rfl); (case hg => rfl); (case hr => first | (go_simp; done) | (go_simp; rfl)); intro gb305 hg w26 hbox hb; have n0_ := Aside0.mk (blk_below (bk BK303.out) hb); have n1_ := Aside0.mk (blk_below (bk BK304.out) hb); have n2_ := Aside0.mk (below_step (by repeat (first | (with_reducible first | exact HB.out | apply below_alloc | apply pw_below_drewN | apply below_drew1 | refine below_set ?_ (Aside0.out (by assumption))) | exact HB.out)) hb); have n3_ := Aside0.mk (hbox); have n4_ := Aside0.mk ((by rw [hg]; exact (below_size (by repeat (first | (with_reducible first | exact HB.out | apply below_alloc | apply pw_below_drewN | apply below_drew1 | refine below_set ?_ (Aside0.out (by assumption))) | exact HB.out))) : w.heap.size ≤ gb305)); have n5_ := Aside0.mk ((by rw [hg]; exact (below_size (by repeat (first | (with_reducible first | exact HB.out | apply below_alloc | apply pw_below_drewN | apply below_drew1 | refine below_set ?_ (Aside0.out (by assumption))) | exact HB.out))) : w.heap.size ≤ gb305)); have n6_ := Aside0.mk ((by rw [hg]; exact Nat.ne_of_lt (blk_lt (g := gb303) (o := .cells #[.bool a0_0, .int .u64 a0_1, .int .u64 a0_2, .int .u64 a0_3, .int .u64 a0_4, .int .u64 a0_5] 56 (0, 0)) (bk BK303.out)) : gb303 ≠ gb305)); have n7_ := Aside0.mk ((by rw [hg]; exact Nat.ne_of_gt (blk_lt (g := gb303) (o := .cells #[.bool a0_0, .int .u64 a0_1, .int .u64 a0_2, .int .u64 a0_3, .int .u64 a0_4, .int .u64 a0_5] 56 (0, 0)) (bk BK303.out)) : gb305 ≠ gb303)); have n8_ := Aside0.mk ((by rw [hg]; exact Nat.ne_of_lt (blk_lt (g := gb304) (o := .cells #[.bool a1_0, .int .u64 a1_1, .int .u64 a1_2, .int .u64 a1_3, .int .u64 a1_4, .int .u64 a1_5] 56 (0, 0)) (bk BK304.out)) : gb304 ≠ gb305)); have n9_ := Aside0.mk ((by rw [hg]; exact Nat.ne_of_gt (blk_lt (g := gb304) (o := .cells #[.bool a1_0, .int .u64 a1_1, .int .u64 a1_2, .int .u64 a1_3, .int .u64 a1_4, .int .u64 a1_5] 56 (0, 0)) (bk BK304.out)) : gb305 ≠ gb304)); clear BK303; clear BK304; clear HB; have BK303 := n0_; have BK304 := n1_; have HB := n2_; have BK305 := n3_; have GW305 := n4_; have GE305 := n5_; have NB303_305 := n6_; have NB305_303 := n7_; have NB304_305 := n8_; have NB305_304 := n9_; clear n0_ n1_ n2_ n3_ n4_ n5_ n6_ n7_ n8_ n9_; clear hb hbox hg; have hnb27 := NB303_304.out; have hnc27 := NB304_303.out; have hnb28 := NB303_305.out; have hnc28 := NB305_303.out; have hcz29_0 : w26.cell? ⟨gb303, 0, none⟩ = some (.bool a0_0) := (blk_cell BK303.out 0).trans rfl; have hcz29_1 : w26.cell? ⟨gb303, 1, none⟩ = some (.int .u64 a0_1) := (blk_cell BK303.out 1).trans rfl; have hcz29_2 : w26.cell? ⟨gb303, 2, none⟩ = some (.int .u64 a0_2) := (blk_cell BK303.out 2).trans rfl; have hcz29_3 : w26.cell? ⟨gb303, 3, none⟩ = some (.int .u64 a0_3) := (blk_cell BK303.out 3).trans rfl; have hcz29_4 : w26.cell? ⟨gb303, 4, none⟩ = some (.int .u64 a0_4) := (blk_cell BK303.out 4).trans rfl; have hcz29_5 : w26.cell? ⟨gb303, 5, none⟩ = some (.int .u64 a0_5) := (blk_cell BK303.out 5).trans rfl; have hfz29_0 := blk_frozen BK303.out 0; have hfz29_1 := blk_frozen BK303.out 1; have hfz29_2 := blk_frozen BK303.out 2; have hfz29_3 := blk_frozen BK303.out 3; have hfz29_4 := blk_frozen BK303.out 4; have hfz29_5 := blk_frozen BK303.out 5; have hnb30 := NB304_305.out; have hnc30 := NB305_304.out; have hcz31_0 : w26.cell? ⟨gb304, 0, none⟩ = some (.bool a1_0) := (blk_cell BK304.out 0).trans rfl; have hcz31_1 : w26.cell? ⟨gb304, 1, none⟩ = some (.int .u64 a1_1) := (blk_cell BK304.out 1).trans rfl; have hcz31_2 : w26.cell? ⟨gb304, 2, none⟩ = some (.int .u64 a1_2) := (blk_cell BK304.out 2).trans rfl; have hcz31_3 : w26.cell? ⟨gb304, 3, none⟩ = some (.int .u64 a1_3) := (blk_cell BK304.out 3).trans rfl; have hcz31_4 : w26.cell? ⟨gb304, 4, none⟩ = some (.int .u64 a1_4) := (blk_cell BK304.out 4).trans rfl; have hcz31_5 : w26.cell? ⟨gb304, 5, none⟩ = some (.int .u64 a1_5) := (blk_cell BK304.out 5).trans rfl; have hfz31_0 := blk_frozen BK304.out 0; have hfz31_1 := blk_frozen BK304.out 1; have hfz31_2 := blk_frozen BK304.out 2; have hfz31_3 := blk_frozen BK304.out 3; have hfz31_4 := blk_frozen BK304.out 4; have hfz31_5 := blk_frozen BK304.out 5) | ((with_reducible refine gate_callee (f := 75) rfl ?_); refine goesL_ (some 24) rfl rfl Tryd.func75 (by kernel_rfl) rfl #[.agg #[.int .u64 a0_1, .int .u64 a0_2, .int .u64 a0_3, .int .u64 a0_4, .int .u64 a0_5], .agg #[.int .u64 a1_1, .int .u64 a1_2, .int .u64 a1_3, .int .u64 a1_4, .int .u64 a1_5]] rfl (by (try simp only [List.map_toArray, List.map_cons, List.map_nil]); first | done | rfl | (simp only [List.length_drop, List.length_take]; rfl)) ?_; (with_reducible refine (rf17_under.calls a0_1 a0_2 a0_3 a0_4 a0_5 a1_1 a1_2 a1_3 a1_4 a1_5 true _ A21.out).mono ?_); rintro e w32 ⟨rfl, hb⟩; refine ⟨_, rfl, ?_⟩; have n0_ := Aside0.mk (blk_below (bk BK303.out) hb); have n1_ := Aside0.mk (blk_below (bk BK304.out) hb); have n2_ := Aside0.mk (blk_below (bk BK305.out) hb); have n3_ := Aside0.mk (below_step (by repeat (first | (with_reducible first | exact HB.out | apply below_alloc | apply pw_below_drewN | apply below_drew1 | refine below_set ?_ (Aside0.out (by assumption))) | exact HB.out)) hb); clear BK303; clear BK304; clear BK305; clear HB; have BK303 := n0_; have BK304 := n1_; have BK305 := n2_; have HB := n3_; clear n0_ n1_ n2_ n3_; (try clear hb); (try clear hb2); (try clear hk); (try clear hi)))
   have n0_ := Aside0.mk (blk_drew BK303.out)
   have n1_ := Aside0.mk (blk_drew BK304.out)
   have n2_ := Aside0.mk (blk_drew BK305.out)
   have n3_ := Aside0.mk (below_drew1 HB.out)
   clear BK303
   clear BK304
   clear BK305
   clear HB
   have BK303 := n0_
   have BK304 := n1_
   have BK305 := n2_
   have HB := n3_
   clear n0_ n1_ n2_ n3_
   refine start_ (n := 9) (S := fun w' => w'.cell? ⟨gb304, 0, none⟩ = some (.bool a1_0) ∧ w'.cell? ⟨gb304, 1, none⟩ = some (.int .u64 a1_1) ∧ w'.cell? ⟨gb304, 2, none⟩ = some (.int .u64 a1_2) ∧ w'.cell? ⟨gb304, 3, none⟩ = some (.int .u64 a1_3) ∧ w'.cell? ⟨gb304, 4, none⟩ = some (.int .u64 a1_4) ∧ w'.cell? ⟨gb304, 5, none⟩ = some (.int .u64 a1_5) ∧ w'.cell? ⟨gb303, 0, none⟩ = some (.bool a0_0) ∧ w'.cell? ⟨gb303, 1, none⟩ = some (.int .u64 a0_1) ∧ w'.cell? ⟨gb303, 2, none⟩ = some (.int .u64 a0_2) ∧ w'.cell? ⟨gb303, 3, none⟩ = some (.int .u64 a0_3) ∧ w'.cell? ⟨gb303, 4, none⟩ = some (.int .u64 a0_4) ∧ w'.cell? ⟨gb303, 5, none⟩ = some (.int .u64 a0_5)) (ds := []) #[false, false, false, false, false, false, false, false, false] (by kernel_rfl) rfl rfl ⟨(blk_cell BK304.out 0).trans rfl, (blk_cell BK304.out 1).trans rfl, (blk_cell BK304.out 2).trans rfl, (blk_cell BK304.out 3).trans rfl, (blk_cell BK304.out 4).trans rfl, (blk_cell BK304.out 5).trans rfl, (blk_cell BK303.out 0).trans rfl, (blk_cell BK303.out 1).trans rfl, (blk_cell BK303.out 2).trans rfl, (blk_cell BK303.out 3).trans rfl, (blk_cell BK303.out 4).trans rfl, (blk_cell BK303.out 5).trans rfl⟩ (fun hHeld => ?_); refine with_tabW rf17_add.tab4 rf17_add.bits4 (fun HT_ HW_ => ?_)
   generalize w32.drew = w33 at BK303 BK304 BK305 HB hHeld ⊢
   refine pure_ (i := 0) (N := some 25) (v := ?_) (a' := ?_) #[true, false, false, false, false, false, false, false, false] rfl rfl (any_of HT_.out (by kernel_rfl)) (fun _ _ _ h => h) (Or.inl ⟨by rfl, ?_⟩) ?_ ?_
   rotate_left
   ·intro w'
    go_simp
    with_reducible rfl
   rotate_left
   ·simp only [Act.put, List.setIfInBounds_toArray, List.set_cons_zero, List.set_cons_succ, i64_w, i32_w]
    rfl
   refine pure_ (i := 2) (N := some 27) (v := ?_) (a' := ?_) #[true, false, true, false, false, false, false, false, false] rfl rfl (any_of HT_.out (by kernel_rfl)) (fun _ _ _ h => h) (Or.inl ⟨by rfl, ?_⟩) ?_ ?_
   rotate_left
   ·intro w'
    go_simp
    with_reducible rfl
   rotate_left
   ·simp only [Act.put, List.setIfInBounds_toArray, List.set_cons_zero, List.set_cons_succ, i64_w, i32_w]
    rfl
   refine pure_ (i := 4) (N := some 29) (v := ?_) (a' := ?_) #[true, false, true, false, true, false, false, false, false] rfl rfl (any_of HT_.out (by kernel_rfl)) (fun _ _ _ h => h) (Or.inl ⟨by rfl, ?_⟩) ?_ ?_
   rotate_left
   ·intro w'
    go_simp
    with_reducible rfl
   rotate_left
   ·simp only [Act.put, List.setIfInBounds_toArray, List.set_cons_zero, List.set_cons_succ, i64_w, i32_w]
    rfl
   refine take_ (i := 1) (N := some 26) (v := ?_) (a' := ?_) #[true, true, true, false, true, false, false, false, false] rfl rfl (take_ofW HT_.out HW_.out (by kernel_rfl)) (fun _ _ _ h => h) (Or.inl ⟨by rfl, ?_⟩) hHeld ?_ ?_
   rotate_left
   ·rintro w' ⟨s0, s1, s2, s3, s4, s5, s6, s7, s8, s9, s10, s11⟩
    go_simp
    with_reducible rfl
   rotate_left
   ·simp only [Act.put, List.setIfInBounds_toArray, List.set_cons_zero, List.set_cons_succ, i64_w, i32_w]
    rfl
   refine take_ (i := 3) (N := some 28) (v := ?_) (a' := ?_) #[true, true, true, true, true, false, false, false, false] rfl rfl (take_ofW HT_.out HW_.out (by kernel_rfl)) (fun _ _ _ h => h) (Or.inl ⟨by rfl, ?_⟩) hHeld ?_ ?_
   rotate_left
   ·rintro w' ⟨s0, s1, s2, s3, s4, s5, s6, s7, s8, s9, s10, s11⟩
    go_simp
    with_reducible rfl
   rotate_left
   ·simp only [Act.put, List.setIfInBounds_toArray, List.set_cons_zero, List.set_cons_succ, i64_w, i32_w]
    rfl
   refine take_ (i := 5) (N := some 30) (v := ?_) (a' := ?_) #[true, true, true, true, true, true, false, false, false] rfl rfl (take_ofW HT_.out HW_.out (by kernel_rfl)) (fun _ _ _ h => h) (Or.inl ⟨by rfl, ?_⟩) hHeld ?_ ?_
   rotate_left
   ·rintro w' ⟨s0, s1, s2, s3, s4, s5, s6, s7, s8, s9, s10, s11⟩
    go_simp
    with_reducible rfl
   rotate_left
   ·simp only [Act.put, List.setIfInBounds_toArray, List.set_cons_zero, List.set_cons_succ, i64_w, i32_w]
    rfl
   refine one_ (i := 6) (N := some 31) #[true, true, true, true, true, true, true, false, false] rfl rfl (one_of HT_.out (by kernel_rfl)) (by decide) (fun K hK => ?_)
   refine goes_ Tryd.func76 (by kernel_rfl) rfl #[.agg #[.int .u64 a1_1, .int .u64 a1_2, .int .u64 a1_3, .int .u64 a1_4, .int .u64 a1_5], .agg #[.int .u64 a0_1, .int .u64 a0_2, .int .u64 a0_3, .int .u64 a0_4, .int .u64 a0_5]] (by rfl) rfl rfl (by (try simp only [List.map_toArray, List.map_cons, List.map_nil]); first | done | rfl | (simp only [List.length_drop, List.length_take]; rfl)) ?_
   with_reducible refine (rf17_minus.calls a1_1 a1_2 a1_3 a1_4 a1_5 a0_1 a0_2 a0_3 a0_4 a0_5 t312 t313 t314 t315 t316 _ A23.out).mono ?_
   rintro e w34 ⟨rfl, hb⟩
   refine ⟨_, rfl, ?_⟩
   have n0_ := Aside0.mk (blk_below (bk BK303.out) hb)
   have n1_ := Aside0.mk (blk_below (bk BK304.out) hb)
   have n2_ := Aside0.mk (blk_below (bk BK305.out) hb)
   have n3_ := Aside0.mk (below_step (by repeat (first | (with_reducible first | exact HB.out | apply below_alloc | apply pw_below_drewN | apply below_drew1 | refine below_set ?_ (Aside0.out (by assumption))) | exact HB.out)) hb)
   clear BK303
   clear BK304
   clear BK305
   clear HB
   have BK303 := n0_
   have BK304 := n1_
   have BK305 := n2_
   have HB := n3_
   clear n0_ n1_ n2_ n3_
   (try clear hb)
   (try clear hb2)
   (try clear hk)
   (try clear hi)
   refine hK.out _ _ ⟨(blk_cell BK304.out 0).trans rfl, (blk_cell BK304.out 1).trans rfl, (blk_cell BK304.out 2).trans rfl, (blk_cell BK304.out 3).trans rfl, (blk_cell BK304.out 4).trans rfl, (blk_cell BK304.out 5).trans rfl, (blk_cell BK303.out 0).trans rfl, (blk_cell BK303.out 1).trans rfl, (blk_cell BK303.out 2).trans rfl, (blk_cell BK303.out 3).trans rfl, (blk_cell BK303.out 4).trans rfl, (blk_cell BK303.out 5).trans rfl⟩ (fun hHeld => ?_)
   clear hK K
   refine norm_ (a' := ?_) ?_ ?_
   rotate_left
   ·show Act.put _ (some 31) _ = _
    simp only [Act.put, List.setIfInBounds_toArray, List.set_cons_zero, List.set_cons_succ, i64_w, i32_w]
    rfl
   refine pure_ (i := 7) (N := some 32) (v := ?_) (a' := ?_) #[true, true, true, true, true, true, true, true, false] rfl rfl (any_of HT_.out (by kernel_rfl)) (fun _ _ _ h => h) (Or.inl ⟨by rfl, ?_⟩) ?_ ?_
   rotate_left
   ·intro w'
    go_simp
    with_reducible rfl
   rotate_left
   ·simp only [Act.put, List.setIfInBounds_toArray, List.set_cons_zero, List.set_cons_succ, i64_w, i32_w]
    rfl
   refine one_ (i := 8) (N := none) #[true, true, true, true, true, true, true, true, true] rfl rfl (one_of HT_.out (by kernel_rfl)) (by decide) (fun K hK => ?_)
   have hs35 : w34.cell? ⟨gb305, 0, none⟩ = some (.bool false) := (blk_cell BK305.out 0).trans rfl
   have hfs35 := blk_frozen BK305.out 0
   have hns35_0 := NB303_305.out
   have hns35_1 := NB304_305.out
   have hms35_0 := NB305_303.out
   have hms35_1 := NB305_304.out
   have hs36 : w34.cell? ⟨gb305, 1, none⟩ = some (.int .u64 0) := (blk_cell BK305.out 1).trans rfl
   have hfs36 := blk_frozen BK305.out 1
   have hns36_0 := NB303_305.out
   have hns36_1 := NB304_305.out
   have hms36_0 := NB305_303.out
   have hms36_1 := NB305_304.out
   have hs37 : w34.cell? ⟨gb305, 2, none⟩ = some (.int .u64 0) := (blk_cell BK305.out 2).trans rfl
   have hfs37 := blk_frozen BK305.out 2
   have hns37_0 := NB303_305.out
   have hns37_1 := NB304_305.out
   have hms37_0 := NB305_303.out
   have hms37_1 := NB305_304.out
   have hs38 : w34.cell? ⟨gb305, 3, none⟩ = some (.int .u64 0) := (blk_cell BK305.out 3).trans rfl
   have hfs38 := blk_frozen BK305.out 3
   have hns38_0 := NB303_305.out
   have hns38_1 := NB304_305.out
   have hms38_0 := NB305_303.out
   have hms38_1 := NB305_304.out
   have hs39 : w34.cell? ⟨gb305, 4, none⟩ = some (.int .u64 0) := (blk_cell BK305.out 4).trans rfl
   have hfs39 := blk_frozen BK305.out 4
   have hns39_0 := NB303_305.out
   have hns39_1 := NB304_305.out
   have hms39_0 := NB305_303.out
   have hms39_1 := NB305_304.out
   have hs40 : w34.cell? ⟨gb305, 5, none⟩ = some (.int .u64 0) := (blk_cell BK305.out 5).trans rfl
   have hfs40 := blk_frozen BK305.out 5
   have hns40_0 := NB303_305.out
   have hns40_1 := NB304_305.out
   have hms40_0 := NB305_303.out
   have hms40_1 := NB305_304.out
   refine skip_ (w1 := ?_) (by rfl) rfl ?_ ?_
   rotate_left
   ·go_simp
    rfl
   refine hK.out _ _ ⟨((cell_far (p := ⟨gb305, _, none⟩) NB304_305.out _).trans (((cell_far (p := ⟨gb305, _, none⟩) NB304_305.out _).trans (((cell_far (p := ⟨gb305, _, none⟩) NB304_305.out _).trans (((cell_far (p := ⟨gb305, _, none⟩) NB304_305.out _).trans (((cell_far (p := ⟨gb305, _, none⟩) NB304_305.out _).trans (((cell_far (p := ⟨gb305, _, none⟩) NB304_305.out _).trans (hHeld.1)))))))))))), ((cell_far (p := ⟨gb305, _, none⟩) NB304_305.out _).trans (((cell_far (p := ⟨gb305, _, none⟩) NB304_305.out _).trans (((cell_far (p := ⟨gb305, _, none⟩) NB304_305.out _).trans (((cell_far (p := ⟨gb305, _, none⟩) NB304_305.out _).trans (((cell_far (p := ⟨gb305, _, none⟩) NB304_305.out _).trans (((cell_far (p := ⟨gb305, _, none⟩) NB304_305.out _).trans (hHeld.2.1)))))))))))), ((cell_far (p := ⟨gb305, _, none⟩) NB304_305.out _).trans (((cell_far (p := ⟨gb305, _, none⟩) NB304_305.out _).trans (((cell_far (p := ⟨gb305, _, none⟩) NB304_305.out _).trans (((cell_far (p := ⟨gb305, _, none⟩) NB304_305.out _).trans (((cell_far (p := ⟨gb305, _, none⟩) NB304_305.out _).trans (((cell_far (p := ⟨gb305, _, none⟩) NB304_305.out _).trans (hHeld.2.2.1)))))))))))), ((cell_far (p := ⟨gb305, _, none⟩) NB304_305.out _).trans (((cell_far (p := ⟨gb305, _, none⟩) NB304_305.out _).trans (((cell_far (p := ⟨gb305, _, none⟩) NB304_305.out _).trans (((cell_far (p := ⟨gb305, _, none⟩) NB304_305.out _).trans (((cell_far (p := ⟨gb305, _, none⟩) NB304_305.out _).trans (((cell_far (p := ⟨gb305, _, none⟩) NB304_305.out _).trans (hHeld.2.2.2.1)))))))))))), ((cell_far (p := ⟨gb305, _, none⟩) NB304_305.out _).trans (((cell_far (p := ⟨gb305, _, none⟩) NB304_305.out _).trans (((cell_far (p := ⟨gb305, _, none⟩) NB304_305.out _).trans (((cell_far (p := ⟨gb305, _, none⟩) NB304_305.out _).trans (((cell_far (p := ⟨gb305, _, none⟩) NB304_305.out _).trans (((cell_far (p := ⟨gb305, _, none⟩) NB304_305.out _).trans (hHeld.2.2.2.2.1)))))))))))), ((cell_far (p := ⟨gb305, _, none⟩) NB304_305.out _).trans (((cell_far (p := ⟨gb305, _, none⟩) NB304_305.out _).trans (((cell_far (p := ⟨gb305, _, none⟩) NB304_305.out _).trans (((cell_far (p := ⟨gb305, _, none⟩) NB304_305.out _).trans (((cell_far (p := ⟨gb305, _, none⟩) NB304_305.out _).trans (((cell_far (p := ⟨gb305, _, none⟩) NB304_305.out _).trans (hHeld.2.2.2.2.2.1)))))))))))), ((cell_far (p := ⟨gb305, _, none⟩) NB303_305.out _).trans (((cell_far (p := ⟨gb305, _, none⟩) NB303_305.out _).trans (((cell_far (p := ⟨gb305, _, none⟩) NB303_305.out _).trans (((cell_far (p := ⟨gb305, _, none⟩) NB303_305.out _).trans (((cell_far (p := ⟨gb305, _, none⟩) NB303_305.out _).trans (((cell_far (p := ⟨gb305, _, none⟩) NB303_305.out _).trans (hHeld.2.2.2.2.2.2.1)))))))))))), ((cell_far (p := ⟨gb305, _, none⟩) NB303_305.out _).trans (((cell_far (p := ⟨gb305, _, none⟩) NB303_305.out _).trans (((cell_far (p := ⟨gb305, _, none⟩) NB303_305.out _).trans (((cell_far (p := ⟨gb305, _, none⟩) NB303_305.out _).trans (((cell_far (p := ⟨gb305, _, none⟩) NB303_305.out _).trans (((cell_far (p := ⟨gb305, _, none⟩) NB303_305.out _).trans (hHeld.2.2.2.2.2.2.2.1)))))))))))), ((cell_far (p := ⟨gb305, _, none⟩) NB303_305.out _).trans (((cell_far (p := ⟨gb305, _, none⟩) NB303_305.out _).trans (((cell_far (p := ⟨gb305, _, none⟩) NB303_305.out _).trans (((cell_far (p := ⟨gb305, _, none⟩) NB303_305.out _).trans (((cell_far (p := ⟨gb305, _, none⟩) NB303_305.out _).trans (((cell_far (p := ⟨gb305, _, none⟩) NB303_305.out _).trans (hHeld.2.2.2.2.2.2.2.2.1)))))))))))), ((cell_far (p := ⟨gb305, _, none⟩) NB303_305.out _).trans (((cell_far (p := ⟨gb305, _, none⟩) NB303_305.out _).trans (((cell_far (p := ⟨gb305, _, none⟩) NB303_305.out _).trans (((cell_far (p := ⟨gb305, _, none⟩) NB303_305.out _).trans (((cell_far (p := ⟨gb305, _, none⟩) NB303_305.out _).trans (((cell_far (p := ⟨gb305, _, none⟩) NB303_305.out _).trans (hHeld.2.2.2.2.2.2.2.2.2.1)))))))))))), ((cell_far (p := ⟨gb305, _, none⟩) NB303_305.out _).trans (((cell_far (p := ⟨gb305, _, none⟩) NB303_305.out _).trans (((cell_far (p := ⟨gb305, _, none⟩) NB303_305.out _).trans (((cell_far (p := ⟨gb305, _, none⟩) NB303_305.out _).trans (((cell_far (p := ⟨gb305, _, none⟩) NB303_305.out _).trans (((cell_far (p := ⟨gb305, _, none⟩) NB303_305.out _).trans (hHeld.2.2.2.2.2.2.2.2.2.2.1)))))))))))), ((cell_far (p := ⟨gb305, _, none⟩) NB303_305.out _).trans (((cell_far (p := ⟨gb305, _, none⟩) NB303_305.out _).trans (((cell_far (p := ⟨gb305, _, none⟩) NB303_305.out _).trans (((cell_far (p := ⟨gb305, _, none⟩) NB303_305.out _).trans (((cell_far (p := ⟨gb305, _, none⟩) NB303_305.out _).trans (((cell_far (p := ⟨gb305, _, none⟩) NB303_305.out _).trans (hHeld.2.2.2.2.2.2.2.2.2.2.2))))))))))))⟩ (fun hHeld => ?_)
   clear hK K
   refine done_ (done_of HT_.out (by kernel_rfl)) ?_
   try go_wp2
   refine bodyPost_ret (results_cell_row rfl _ _ gb305 56 #[.bool a1_0, .int .u64 t312, .int .u64 t313, .int .u64 t314, .int .u64 t315, .int .u64 t316] (0, 0) _ rfl (by (with_reducible repeat first | apply blk_drewN | apply blk_drew | apply blk_alloc); refine blk_put (cs := #[.bool a1_0, .int .u64 t312, .int .u64 t313, .int .u64 t314, .int .u64 t315, .int .u64 0]) ?_ 5 _ rfl; refine blk_put (cs := #[.bool a1_0, .int .u64 t312, .int .u64 t313, .int .u64 t314, .int .u64 0, .int .u64 0]) ?_ 4 _ rfl; refine blk_put (cs := #[.bool a1_0, .int .u64 t312, .int .u64 t313, .int .u64 0, .int .u64 0, .int .u64 0]) ?_ 3 _ rfl; refine blk_put (cs := #[.bool a1_0, .int .u64 t312, .int .u64 0, .int .u64 0, .int .u64 0, .int .u64 0]) ?_ 2 _ rfl; refine blk_put (cs := #[.bool a1_0, .int .u64 0, .int .u64 0, .int .u64 0, .int .u64 0, .int .u64 0]) ?_ 1 _ rfl; refine blk_put (cs := #[.bool false, .int .u64 0, .int .u64 0, .int .u64 0, .int .u64 0, .int .u64 0]) ?_ 0 _ rfl; (with_reducible repeat first | apply blk_drewN | apply blk_drew | apply blk_alloc); exact BK305.out) Tryd.underlying56 rfl (by kernel_rfl)) rfl ?_
   exact ⟨by first | rfl | (simp [errW_none, errW_some] <;> rfl) | (simp [*, errW_none, errW_some] <;> rfl), by repeat (first | (with_reducible first | exact HB.out | apply below_alloc | apply pw_below_drewN | apply below_drew1 | refine below_set ?_ (Aside0.out (by assumption))) | exact HB.out)⟩
  ·replace c22 := Bool.eq_false_iff.mpr c22
   subst c22
   have H1 : ((rf17_minus.f a0_1 a0_2 a0_3 a0_4 a0_5 a1_1 a1_2 a1_3 a1_4 a1_5).bind fun bt317 => (some (a0_0, bt317.1, bt317.2.1, bt317.2.2.1, bt317.2.2.2.1, bt317.2.2.2.2))) = some (r1, r2, r3, r4, r5, r6) := by rw [if_neg (show ¬ (false = true) by decide)] at H; exact H
   clear H
   have H := H1
   clear H1
   replace H := Option.bind_eq_some_iff.mp H
   obtain ⟨⟨t317, t318, t319, t320, t321⟩, A410, H⟩ := H
   replace H : (some (a0_0, t317, t318, t319, t320, t321)) = some (r1, r2, r3, r4, r5, r6) := H
   have A41 := Aside0.mk A410
   clear A410
   simp only [Option.some.injEq, Prod.mk.injEq] at H
   obtain ⟨rfl, rfl, rfl, rfl, rfl, rfl⟩ := H
   go_enter Tryd.func46, Tryd.ntmps46
   try go_wp2_with (first | ((with_reducible refine gate_dst (N := 2) rfl ?_); refine box_event ?hg (N := 2) ?hd (cs := #[.bool a0_0, .int .u64 a0_1, .int .u64 a0_2, .int .u64 a0_3, .int .u64 a0_4, .int .u64 a0_5]) (t := 56) ?hr ?_; (case hd => rfl); (case hg => rfl); (case hr => first | (go_simp; done) | (go_simp; rfl)); intro gb303 hg w42 hbox hb; have n0_ := Aside0.mk (below_step (bw HB.out) hb); have n1_ := Aside0.mk (hbox); have n2_ := Aside0.mk ((by rw [hg]; exact (below_size (bw HB.out)) : w.heap.size ≤ gb303)); have n3_ := Aside0.mk ((by rw [hg]; exact (below_size (bw HB.out)) : w.heap.size ≤ gb303)); clear HB; have HB := n0_; have BK303 := n1_; have GW303 := n2_; have GE303 := n3_; clear n0_ n1_ n2_ n3_; clear hb hbox hg) | ((with_reducible refine gate_dst (N := 3) rfl ?_); refine box_event ?hg (N := 3) ?hd (cs := #[.bool a1_0, .int .u64 a1_1, .int .u64 a1_2, .int .u64 a1_3, .int .u64 a1_4, .int .u64 a1_5]) (t := 56) ?hr ?_; (case hd => rfl); (case hg => rfl); (case hr => first | (go_simp; done) | (go_simp; rfl)); intro gb304 hg w43 hbox hb; have n0_ := Aside0.mk (blk_below (bk BK303.out) hb); have n1_ := Aside0.mk (below_step (by repeat (first | (with_reducible first | exact HB.out | apply below_alloc | apply pw_below_drewN | apply below_drew1 | refine below_set ?_ GE303.out) | exact HB.out)) hb); have n2_ := Aside0.mk (hbox); have n3_ := Aside0.mk ((by rw [hg]; exact (below_size (by repeat (first | (with_reducible first | exact HB.out | apply below_alloc | apply pw_below_drewN | apply below_drew1 | refine below_set ?_ GE303.out) | exact HB.out))) : w.heap.size ≤ gb304)); have n4_ := Aside0.mk ((by rw [hg]; exact (below_size (by repeat (first | (with_reducible first | exact HB.out | apply below_alloc | apply pw_below_drewN | apply below_drew1 | refine below_set ?_ GE303.out) | exact HB.out))) : w.heap.size ≤ gb304)); have n5_ := Aside0.mk ((by rw [hg]; exact Nat.ne_of_lt (blk_lt (g := gb303) (o := .cells #[.bool a0_0, .int .u64 a0_1, .int .u64 a0_2, .int .u64 a0_3, .int .u64 a0_4, .int .u64 a0_5] 56 (0, 0)) (bk BK303.out)) : gb303 ≠ gb304)); have n6_ := Aside0.mk ((by rw [hg]; exact Nat.ne_of_gt (blk_lt (g := gb303) (o := .cells #[.bool a0_0, .int .u64 a0_1, .int .u64 a0_2, .int .u64 a0_3, .int .u64 a0_4, .int .u64 a0_5] 56 (0, 0)) (bk BK303.out)) : gb304 ≠ gb303)); clear BK303; clear HB; have BK303 := n0_; have HB := n1_; have BK304 := n2_; have GW304 := n3_; have GE304 := n4_; have NB303_304 := n5_; have NB304_303 := n6_; clear n0_ n1_ n2_ n3_ n4_ n5_ n6_; clear hb hbox hg) | ((with_reducible refine gate_dst (N := 4) rfl ?_); refine box_event ?hg (N := 4) ?hd (cs := #[.bool false, .int .u64 0, .int .u64 0, .int .u64 0, .int .u64 0, .int .u64 0]) (t := 56) ?hr ?_; (case hd => rfl); (case hg => rfl); (case hr => first | (go_simp; done) | (go_simp; rfl)); intro gb305 hg w44 hbox hb; have n0_ := Aside0.mk (blk_below (bk BK303.out) hb); have n1_ := Aside0.mk (blk_below (bk BK304.out) hb); have n2_ := Aside0.mk (below_step (by repeat (first | (with_reducible first | exact HB.out | apply below_alloc | apply pw_below_drewN | apply below_drew1 | refine below_set ?_ (Aside0.out (by assumption))) | exact HB.out)) hb); have n3_ := Aside0.mk (hbox); have n4_ := Aside0.mk ((by rw [hg]; exact (below_size (by repeat (first | (with_reducible first | exact HB.out | apply below_alloc | apply pw_below_drewN | apply below_drew1 | refine below_set ?_ (Aside0.out (by assumption))) | exact HB.out))) : w.heap.size ≤ gb305)); have n5_ := Aside0.mk ((by rw [hg]; exact (below_size (by repeat (first | (with_reducible first | exact HB.out | apply below_alloc | apply pw_below_drewN | apply below_drew1 | refine below_set ?_ (Aside0.out (by assumption))) | exact HB.out))) : w.heap.size ≤ gb305)); have n6_ := Aside0.mk ((by rw [hg]; exact Nat.ne_of_lt (blk_lt (g := gb303) (o := .cells #[.bool a0_0, .int .u64 a0_1, .int .u64 a0_2, .int .u64 a0_3, .int .u64 a0_4, .int .u64 a0_5] 56 (0, 0)) (bk BK303.out)) : gb303 ≠ gb305)); have n7_ := Aside0.mk ((by rw [hg]; exact Nat.ne_of_gt (blk_lt (g := gb303) (o := .cells #[.bool a0_0, .int .u64 a0_1, .int .u64 a0_2, .int .u64 a0_3, .int .u64 a0_4, .int .u64 a0_5] 56 (0, 0)) (bk BK303.out)) : gb305 ≠ gb303)); have n8_ := Aside0.mk ((by rw [hg]; exact Nat.ne_of_lt (blk_lt (g := gb304) (o := .cells #[.bool a1_0, .int .u64 a1_1, .int .u64 a1_2, .int .u64 a1_3, .int .u64 a1_4, .int .u64 a1_5] 56 (0, 0)) (bk BK304.out)) : gb304 ≠ gb305)); have n9_ := Aside0.mk ((by rw [hg]; exact Nat.ne_of_gt (blk_lt (g := gb304) (o := .cells #[.bool a1_0, .int .u64 a1_1, .int .u64 a1_2, .int .u64 a1_3, .int .u64 a1_4, .int .u64 a1_5] 56 (0, 0)) (bk BK304.out)) : gb305 ≠ gb304)); clear BK303; clear BK304; clear HB; have BK303 := n0_; have BK304 := n1_; have HB := n2_; have BK305 := n3_; have GW305 := n4_; have GE305 := n5_; have NB303_305 := n6_; have NB305_303 := n7_; have NB304_305 := n8_; have NB305_304 := n9_; clear n0_ n1_ n2_ n3_ n4_ n5_ n6_ n7_ n8_ n9_; clear hb hbox hg; have hnb45 := NB303_304.out; have hnc45 := NB304_303.out; have hnb46 := NB303_305.out; have hnc46 := NB305_303.out; have hcz47_0 : w44.cell? ⟨gb303, 0, none⟩ = some (.bool a0_0) := (blk_cell BK303.out 0).trans rfl; have hcz47_1 : w44.cell? ⟨gb303, 1, none⟩ = some (.int .u64 a0_1) := (blk_cell BK303.out 1).trans rfl; have hcz47_2 : w44.cell? ⟨gb303, 2, none⟩ = some (.int .u64 a0_2) := (blk_cell BK303.out 2).trans rfl; have hcz47_3 : w44.cell? ⟨gb303, 3, none⟩ = some (.int .u64 a0_3) := (blk_cell BK303.out 3).trans rfl; have hcz47_4 : w44.cell? ⟨gb303, 4, none⟩ = some (.int .u64 a0_4) := (blk_cell BK303.out 4).trans rfl; have hcz47_5 : w44.cell? ⟨gb303, 5, none⟩ = some (.int .u64 a0_5) := (blk_cell BK303.out 5).trans rfl; have hfz47_0 := blk_frozen BK303.out 0; have hfz47_1 := blk_frozen BK303.out 1; have hfz47_2 := blk_frozen BK303.out 2; have hfz47_3 := blk_frozen BK303.out 3; have hfz47_4 := blk_frozen BK303.out 4; have hfz47_5 := blk_frozen BK303.out 5; have hnb48 := NB304_305.out; have hnc48 := NB305_304.out; have hcz49_0 : w44.cell? ⟨gb304, 0, none⟩ = some (.bool a1_0) := (blk_cell BK304.out 0).trans rfl; have hcz49_1 : w44.cell? ⟨gb304, 1, none⟩ = some (.int .u64 a1_1) := (blk_cell BK304.out 1).trans rfl; have hcz49_2 : w44.cell? ⟨gb304, 2, none⟩ = some (.int .u64 a1_2) := (blk_cell BK304.out 2).trans rfl; have hcz49_3 : w44.cell? ⟨gb304, 3, none⟩ = some (.int .u64 a1_3) := (blk_cell BK304.out 3).trans rfl; have hcz49_4 : w44.cell? ⟨gb304, 4, none⟩ = some (.int .u64 a1_4) := (blk_cell BK304.out 4).trans rfl; have hcz49_5 : w44.cell? ⟨gb304, 5, none⟩ = some (.int .u64 a1_5) := (blk_cell BK304.out 5).trans rfl; have hfz49_0 := blk_frozen BK304.out 0; have hfz49_1 := blk_frozen BK304.out 1; have hfz49_2 := blk_frozen BK304.out 2; have hfz49_3 := blk_frozen BK304.out 3; have hfz49_4 := blk_frozen BK304.out 4; have hfz49_5 := blk_frozen BK304.out 5) | ((with_reducible refine gate_callee (f := 75) rfl ?_); refine goesL_ (some 24) rfl rfl Tryd.func75 (by kernel_rfl) rfl #[.agg #[.int .u64 a0_1, .int .u64 a0_2, .int .u64 a0_3, .int .u64 a0_4, .int .u64 a0_5], .agg #[.int .u64 a1_1, .int .u64 a1_2, .int .u64 a1_3, .int .u64 a1_4, .int .u64 a1_5]] rfl (by (try simp only [List.map_toArray, List.map_cons, List.map_nil]); first | done | rfl | (simp only [List.length_drop, List.length_take]; rfl)) ?_; (with_reducible refine (rf17_under.calls a0_1 a0_2 a0_3 a0_4 a0_5 a1_1 a1_2 a1_3 a1_4 a1_5 false _ A21.out).mono ?_); rintro e w50 ⟨rfl, hb⟩; refine ⟨_, rfl, ?_⟩; have n0_ := Aside0.mk (blk_below (bk BK303.out) hb); have n1_ := Aside0.mk (blk_below (bk BK304.out) hb); have n2_ := Aside0.mk (blk_below (bk BK305.out) hb); have n3_ := Aside0.mk (below_step (by repeat (first | (with_reducible first | exact HB.out | apply below_alloc | apply pw_below_drewN | apply below_drew1 | refine below_set ?_ (Aside0.out (by assumption))) | exact HB.out)) hb); clear BK303; clear BK304; clear BK305; clear HB; have BK303 := n0_; have BK304 := n1_; have BK305 := n2_; have HB := n3_; clear n0_ n1_ n2_ n3_; (try clear hb); (try clear hb2); (try clear hk); (try clear hi)))
   have n0_ := Aside0.mk (blk_drew BK303.out)
   have n1_ := Aside0.mk (blk_drew BK304.out)
   have n2_ := Aside0.mk (blk_drew BK305.out)
   have n3_ := Aside0.mk (below_drew1 HB.out)
   clear BK303
   clear BK304
   clear BK305
   clear HB
   have BK303 := n0_
   have BK304 := n1_
   have BK305 := n2_
   have HB := n3_
   clear n0_ n1_ n2_ n3_
   refine start_ (n := 9) (S := fun w' => w'.cell? ⟨gb303, 0, none⟩ = some (.bool a0_0) ∧ w'.cell? ⟨gb303, 1, none⟩ = some (.int .u64 a0_1) ∧ w'.cell? ⟨gb303, 2, none⟩ = some (.int .u64 a0_2) ∧ w'.cell? ⟨gb303, 3, none⟩ = some (.int .u64 a0_3) ∧ w'.cell? ⟨gb303, 4, none⟩ = some (.int .u64 a0_4) ∧ w'.cell? ⟨gb303, 5, none⟩ = some (.int .u64 a0_5) ∧ w'.cell? ⟨gb304, 0, none⟩ = some (.bool a1_0) ∧ w'.cell? ⟨gb304, 1, none⟩ = some (.int .u64 a1_1) ∧ w'.cell? ⟨gb304, 2, none⟩ = some (.int .u64 a1_2) ∧ w'.cell? ⟨gb304, 3, none⟩ = some (.int .u64 a1_3) ∧ w'.cell? ⟨gb304, 4, none⟩ = some (.int .u64 a1_4) ∧ w'.cell? ⟨gb304, 5, none⟩ = some (.int .u64 a1_5)) (ds := []) #[false, false, false, false, false, false, false, false, false] (by kernel_rfl) rfl rfl ⟨(blk_cell BK303.out 0).trans rfl, (blk_cell BK303.out 1).trans rfl, (blk_cell BK303.out 2).trans rfl, (blk_cell BK303.out 3).trans rfl, (blk_cell BK303.out 4).trans rfl, (blk_cell BK303.out 5).trans rfl, (blk_cell BK304.out 0).trans rfl, (blk_cell BK304.out 1).trans rfl, (blk_cell BK304.out 2).trans rfl, (blk_cell BK304.out 3).trans rfl, (blk_cell BK304.out 4).trans rfl, (blk_cell BK304.out 5).trans rfl⟩ (fun hHeld => ?_); refine with_tabW rf17_add.tab5 rf17_add.bits5 (fun HT_ HW_ => ?_)
   generalize w50.drew = w51 at BK303 BK304 BK305 HB hHeld ⊢
   refine pure_ (i := 0) (N := some 33) (v := ?_) (a' := ?_) #[true, false, false, false, false, false, false, false, false] rfl rfl (any_of HT_.out (by kernel_rfl)) (fun _ _ _ h => h) (Or.inl ⟨by rfl, ?_⟩) ?_ ?_
   rotate_left
   ·intro w'
    go_simp
    with_reducible rfl
   rotate_left
   ·simp only [Act.put, List.setIfInBounds_toArray, List.set_cons_zero, List.set_cons_succ, i64_w, i32_w]
    rfl
   refine pure_ (i := 2) (N := some 35) (v := ?_) (a' := ?_) #[true, false, true, false, false, false, false, false, false] rfl rfl (any_of HT_.out (by kernel_rfl)) (fun _ _ _ h => h) (Or.inl ⟨by rfl, ?_⟩) ?_ ?_
   rotate_left
   ·intro w'
    go_simp
    with_reducible rfl
   rotate_left
   ·simp only [Act.put, List.setIfInBounds_toArray, List.set_cons_zero, List.set_cons_succ, i64_w, i32_w]
    rfl
   refine pure_ (i := 4) (N := some 37) (v := ?_) (a' := ?_) #[true, false, true, false, true, false, false, false, false] rfl rfl (any_of HT_.out (by kernel_rfl)) (fun _ _ _ h => h) (Or.inl ⟨by rfl, ?_⟩) ?_ ?_
   rotate_left
   ·intro w'
    go_simp
    with_reducible rfl
   rotate_left
   ·simp only [Act.put, List.setIfInBounds_toArray, List.set_cons_zero, List.set_cons_succ, i64_w, i32_w]
    rfl
   refine take_ (i := 1) (N := some 34) (v := ?_) (a' := ?_) #[true, true, true, false, true, false, false, false, false] rfl rfl (take_ofW HT_.out HW_.out (by kernel_rfl)) (fun _ _ _ h => h) (Or.inl ⟨by rfl, ?_⟩) hHeld ?_ ?_
   rotate_left
   ·rintro w' ⟨s0, s1, s2, s3, s4, s5, s6, s7, s8, s9, s10, s11⟩
    go_simp
    with_reducible rfl
   rotate_left
   ·simp only [Act.put, List.setIfInBounds_toArray, List.set_cons_zero, List.set_cons_succ, i64_w, i32_w]
    rfl
   refine take_ (i := 3) (N := some 36) (v := ?_) (a' := ?_) #[true, true, true, true, true, false, false, false, false] rfl rfl (take_ofW HT_.out HW_.out (by kernel_rfl)) (fun _ _ _ h => h) (Or.inl ⟨by rfl, ?_⟩) hHeld ?_ ?_
   rotate_left
   ·rintro w' ⟨s0, s1, s2, s3, s4, s5, s6, s7, s8, s9, s10, s11⟩
    go_simp
    with_reducible rfl
   rotate_left
   ·simp only [Act.put, List.setIfInBounds_toArray, List.set_cons_zero, List.set_cons_succ, i64_w, i32_w]
    rfl
   refine take_ (i := 5) (N := some 38) (v := ?_) (a' := ?_) #[true, true, true, true, true, true, false, false, false] rfl rfl (take_ofW HT_.out HW_.out (by kernel_rfl)) (fun _ _ _ h => h) (Or.inl ⟨by rfl, ?_⟩) hHeld ?_ ?_
   rotate_left
   ·rintro w' ⟨s0, s1, s2, s3, s4, s5, s6, s7, s8, s9, s10, s11⟩
    go_simp
    with_reducible rfl
   rotate_left
   ·simp only [Act.put, List.setIfInBounds_toArray, List.set_cons_zero, List.set_cons_succ, i64_w, i32_w]
    rfl
   refine one_ (i := 6) (N := some 39) #[true, true, true, true, true, true, true, false, false] rfl rfl (one_of HT_.out (by kernel_rfl)) (by decide) (fun K hK => ?_)
   refine goes_ Tryd.func76 (by kernel_rfl) rfl #[.agg #[.int .u64 a0_1, .int .u64 a0_2, .int .u64 a0_3, .int .u64 a0_4, .int .u64 a0_5], .agg #[.int .u64 a1_1, .int .u64 a1_2, .int .u64 a1_3, .int .u64 a1_4, .int .u64 a1_5]] (by rfl) rfl rfl (by (try simp only [List.map_toArray, List.map_cons, List.map_nil]); first | done | rfl | (simp only [List.length_drop, List.length_take]; rfl)) ?_
   with_reducible refine (rf17_minus.calls a0_1 a0_2 a0_3 a0_4 a0_5 a1_1 a1_2 a1_3 a1_4 a1_5 t317 t318 t319 t320 t321 _ A41.out).mono ?_
   rintro e w52 ⟨rfl, hb⟩
   refine ⟨_, rfl, ?_⟩
   have n0_ := Aside0.mk (blk_below (bk BK303.out) hb)
   have n1_ := Aside0.mk (blk_below (bk BK304.out) hb)
   have n2_ := Aside0.mk (blk_below (bk BK305.out) hb)
   have n3_ := Aside0.mk (below_step (by repeat (first | (with_reducible first | exact HB.out | apply below_alloc | apply pw_below_drewN | apply below_drew1 | refine below_set ?_ (Aside0.out (by assumption))) | exact HB.out)) hb)
   clear BK303
   clear BK304
   clear BK305
   clear HB
   have BK303 := n0_
   have BK304 := n1_
   have BK305 := n2_
   have HB := n3_
   clear n0_ n1_ n2_ n3_
   (try clear hb)
   (try clear hb2)
   (try clear hk)
   (try clear hi)
   refine hK.out _ _ ⟨(blk_cell BK303.out 0).trans rfl, (blk_cell BK303.out 1).trans rfl, (blk_cell BK303.out 2).trans rfl, (blk_cell BK303.out 3).trans rfl, (blk_cell BK303.out 4).trans rfl, (blk_cell BK303.out 5).trans rfl, (blk_cell BK304.out 0).trans rfl, (blk_cell BK304.out 1).trans rfl, (blk_cell BK304.out 2).trans rfl, (blk_cell BK304.out 3).trans rfl, (blk_cell BK304.out 4).trans rfl, (blk_cell BK304.out 5).trans rfl⟩ (fun hHeld => ?_)
   clear hK K
   refine norm_ (a' := ?_) ?_ ?_
   rotate_left
   ·show Act.put _ (some 39) _ = _
    simp only [Act.put, List.setIfInBounds_toArray, List.set_cons_zero, List.set_cons_succ, i64_w, i32_w]
    rfl
   refine pure_ (i := 7) (N := some 40) (v := ?_) (a' := ?_) #[true, true, true, true, true, true, true, true, false] rfl rfl (any_of HT_.out (by kernel_rfl)) (fun _ _ _ h => h) (Or.inl ⟨by rfl, ?_⟩) ?_ ?_
   rotate_left
   ·intro w'
    go_simp
    with_reducible rfl
   rotate_left
   ·simp only [Act.put, List.setIfInBounds_toArray, List.set_cons_zero, List.set_cons_succ, i64_w, i32_w]
    rfl
   refine one_ (i := 8) (N := none) #[true, true, true, true, true, true, true, true, true] rfl rfl (one_of HT_.out (by kernel_rfl)) (by decide) (fun K hK => ?_)
   have hs53 : w52.cell? ⟨gb305, 0, none⟩ = some (.bool false) := (blk_cell BK305.out 0).trans rfl
   have hfs53 := blk_frozen BK305.out 0
   have hns53_0 := NB303_305.out
   have hns53_1 := NB304_305.out
   have hms53_0 := NB305_303.out
   have hms53_1 := NB305_304.out
   have hs54 : w52.cell? ⟨gb305, 1, none⟩ = some (.int .u64 0) := (blk_cell BK305.out 1).trans rfl
   have hfs54 := blk_frozen BK305.out 1
   have hns54_0 := NB303_305.out
   have hns54_1 := NB304_305.out
   have hms54_0 := NB305_303.out
   have hms54_1 := NB305_304.out
   have hs55 : w52.cell? ⟨gb305, 2, none⟩ = some (.int .u64 0) := (blk_cell BK305.out 2).trans rfl
   have hfs55 := blk_frozen BK305.out 2
   have hns55_0 := NB303_305.out
   have hns55_1 := NB304_305.out
   have hms55_0 := NB305_303.out
   have hms55_1 := NB305_304.out
   have hs56 : w52.cell? ⟨gb305, 3, none⟩ = some (.int .u64 0) := (blk_cell BK305.out 3).trans rfl
   have hfs56 := blk_frozen BK305.out 3
   have hns56_0 := NB303_305.out
   have hns56_1 := NB304_305.out
   have hms56_0 := NB305_303.out
   have hms56_1 := NB305_304.out
   have hs57 : w52.cell? ⟨gb305, 4, none⟩ = some (.int .u64 0) := (blk_cell BK305.out 4).trans rfl
   have hfs57 := blk_frozen BK305.out 4
   have hns57_0 := NB303_305.out
   have hns57_1 := NB304_305.out
   have hms57_0 := NB305_303.out
   have hms57_1 := NB305_304.out
   have hs58 : w52.cell? ⟨gb305, 5, none⟩ = some (.int .u64 0) := (blk_cell BK305.out 5).trans rfl
   have hfs58 := blk_frozen BK305.out 5
   have hns58_0 := NB303_305.out
   have hns58_1 := NB304_305.out
   have hms58_0 := NB305_303.out
   have hms58_1 := NB305_304.out
   refine skip_ (w1 := ?_) (by rfl) rfl ?_ ?_
   rotate_left
   ·go_simp
    rfl
   refine hK.out _ _ ⟨((cell_far (p := ⟨gb305, _, none⟩) NB303_305.out _).trans (((cell_far (p := ⟨gb305, _, none⟩) NB303_305.out _).trans (((cell_far (p := ⟨gb305, _, none⟩) NB303_305.out _).trans (((cell_far (p := ⟨gb305, _, none⟩) NB303_305.out _).trans (((cell_far (p := ⟨gb305, _, none⟩) NB303_305.out _).trans (((cell_far (p := ⟨gb305, _, none⟩) NB303_305.out _).trans (hHeld.1)))))))))))), ((cell_far (p := ⟨gb305, _, none⟩) NB303_305.out _).trans (((cell_far (p := ⟨gb305, _, none⟩) NB303_305.out _).trans (((cell_far (p := ⟨gb305, _, none⟩) NB303_305.out _).trans (((cell_far (p := ⟨gb305, _, none⟩) NB303_305.out _).trans (((cell_far (p := ⟨gb305, _, none⟩) NB303_305.out _).trans (((cell_far (p := ⟨gb305, _, none⟩) NB303_305.out _).trans (hHeld.2.1)))))))))))), ((cell_far (p := ⟨gb305, _, none⟩) NB303_305.out _).trans (((cell_far (p := ⟨gb305, _, none⟩) NB303_305.out _).trans (((cell_far (p := ⟨gb305, _, none⟩) NB303_305.out _).trans (((cell_far (p := ⟨gb305, _, none⟩) NB303_305.out _).trans (((cell_far (p := ⟨gb305, _, none⟩) NB303_305.out _).trans (((cell_far (p := ⟨gb305, _, none⟩) NB303_305.out _).trans (hHeld.2.2.1)))))))))))), ((cell_far (p := ⟨gb305, _, none⟩) NB303_305.out _).trans (((cell_far (p := ⟨gb305, _, none⟩) NB303_305.out _).trans (((cell_far (p := ⟨gb305, _, none⟩) NB303_305.out _).trans (((cell_far (p := ⟨gb305, _, none⟩) NB303_305.out _).trans (((cell_far (p := ⟨gb305, _, none⟩) NB303_305.out _).trans (((cell_far (p := ⟨gb305, _, none⟩) NB303_305.out _).trans (hHeld.2.2.2.1)))))))))))), ((cell_far (p := ⟨gb305, _, none⟩) NB303_305.out _).trans (((cell_far (p := ⟨gb305, _, none⟩) NB303_305.out _).trans (((cell_far (p := ⟨gb305, _, none⟩) NB303_305.out _).trans (((cell_far (p := ⟨gb305, _, none⟩) NB303_305.out _).trans (((cell_far (p := ⟨gb305, _, none⟩) NB303_305.out _).trans (((cell_far (p := ⟨gb305, _, none⟩) NB303_305.out _).trans (hHeld.2.2.2.2.1)))))))))))), ((cell_far (p := ⟨gb305, _, none⟩) NB303_305.out _).trans (((cell_far (p := ⟨gb305, _, none⟩) NB303_305.out _).trans (((cell_far (p := ⟨gb305, _, none⟩) NB303_305.out _).trans (((cell_far (p := ⟨gb305, _, none⟩) NB303_305.out _).trans (((cell_far (p := ⟨gb305, _, none⟩) NB303_305.out _).trans (((cell_far (p := ⟨gb305, _, none⟩) NB303_305.out _).trans (hHeld.2.2.2.2.2.1)))))))))))), ((cell_far (p := ⟨gb305, _, none⟩) NB304_305.out _).trans (((cell_far (p := ⟨gb305, _, none⟩) NB304_305.out _).trans (((cell_far (p := ⟨gb305, _, none⟩) NB304_305.out _).trans (((cell_far (p := ⟨gb305, _, none⟩) NB304_305.out _).trans (((cell_far (p := ⟨gb305, _, none⟩) NB304_305.out _).trans (((cell_far (p := ⟨gb305, _, none⟩) NB304_305.out _).trans (hHeld.2.2.2.2.2.2.1)))))))))))), ((cell_far (p := ⟨gb305, _, none⟩) NB304_305.out _).trans (((cell_far (p := ⟨gb305, _, none⟩) NB304_305.out _).trans (((cell_far (p := ⟨gb305, _, none⟩) NB304_305.out _).trans (((cell_far (p := ⟨gb305, _, none⟩) NB304_305.out _).trans (((cell_far (p := ⟨gb305, _, none⟩) NB304_305.out _).trans (((cell_far (p := ⟨gb305, _, none⟩) NB304_305.out _).trans (hHeld.2.2.2.2.2.2.2.1)))))))))))), ((cell_far (p := ⟨gb305, _, none⟩) NB304_305.out _).trans (((cell_far (p := ⟨gb305, _, none⟩) NB304_305.out _).trans (((cell_far (p := ⟨gb305, _, none⟩) NB304_305.out _).trans (((cell_far (p := ⟨gb305, _, none⟩) NB304_305.out _).trans (((cell_far (p := ⟨gb305, _, none⟩) NB304_305.out _).trans (((cell_far (p := ⟨gb305, _, none⟩) NB304_305.out _).trans (hHeld.2.2.2.2.2.2.2.2.1)))))))))))), ((cell_far (p := ⟨gb305, _, none⟩) NB304_305.out _).trans (((cell_far (p := ⟨gb305, _, none⟩) NB304_305.out _).trans (((cell_far (p := ⟨gb305, _, none⟩) NB304_305.out _).trans (((cell_far (p := ⟨gb305, _, none⟩) NB304_305.out _).trans (((cell_far (p := ⟨gb305, _, none⟩) NB304_305.out _).trans (((cell_far (p := ⟨gb305, _, none⟩) NB304_305.out _).trans (hHeld.2.2.2.2.2.2.2.2.2.1)))))))))))), ((cell_far (p := ⟨gb305, _, none⟩) NB304_305.out _).trans (((cell_far (p := ⟨gb305, _, none⟩) NB304_305.out _).trans (((cell_far (p := ⟨gb305, _, none⟩) NB304_305.out _).trans (((cell_far (p := ⟨gb305, _, none⟩) NB304_305.out _).trans (((cell_far (p := ⟨gb305, _, none⟩) NB304_305.out _).trans (((cell_far (p := ⟨gb305, _, none⟩) NB304_305.out _).trans (hHeld.2.2.2.2.2.2.2.2.2.2.1)))))))))))), ((cell_far (p := ⟨gb305, _, none⟩) NB304_305.out _).trans (((cell_far (p := ⟨gb305, _, none⟩) NB304_305.out _).trans (((cell_far (p := ⟨gb305, _, none⟩) NB304_305.out _).trans (((cell_far (p := ⟨gb305, _, none⟩) NB304_305.out _).trans (((cell_far (p := ⟨gb305, _, none⟩) NB304_305.out _).trans (((cell_far (p := ⟨gb305, _, none⟩) NB304_305.out _).trans (hHeld.2.2.2.2.2.2.2.2.2.2.2))))))))))))⟩ (fun hHeld => ?_)
   clear hK K
   refine done_ (done_of HT_.out (by kernel_rfl)) ?_
   try go_wp2
   refine bodyPost_ret (results_cell_row rfl _ _ gb305 56 #[.bool a0_0, .int .u64 t317, .int .u64 t318, .int .u64 t319, .int .u64 t320, .int .u64 t321] (0, 0) _ rfl (by (with_reducible repeat first | apply blk_drewN | apply blk_drew | apply blk_alloc); refine blk_put (cs := #[.bool a0_0, .int .u64 t317, .int .u64 t318, .int .u64 t319, .int .u64 t320, .int .u64 0]) ?_ 5 _ rfl; refine blk_put (cs := #[.bool a0_0, .int .u64 t317, .int .u64 t318, .int .u64 t319, .int .u64 0, .int .u64 0]) ?_ 4 _ rfl; refine blk_put (cs := #[.bool a0_0, .int .u64 t317, .int .u64 t318, .int .u64 0, .int .u64 0, .int .u64 0]) ?_ 3 _ rfl; refine blk_put (cs := #[.bool a0_0, .int .u64 t317, .int .u64 0, .int .u64 0, .int .u64 0, .int .u64 0]) ?_ 2 _ rfl; refine blk_put (cs := #[.bool a0_0, .int .u64 0, .int .u64 0, .int .u64 0, .int .u64 0, .int .u64 0]) ?_ 1 _ rfl; refine blk_put (cs := #[.bool false, .int .u64 0, .int .u64 0, .int .u64 0, .int .u64 0, .int .u64 0]) ?_ 0 _ rfl; (with_reducible repeat first | apply blk_drewN | apply blk_drew | apply blk_alloc); exact BK305.out) Tryd.underlying56 rfl (by kernel_rfl)) rfl ?_
   exact ⟨by first | rfl | (simp [errW_none, errW_some] <;> rfl) | (simp [*, errW_none, errW_some] <;> rfl), by repeat (first | (with_reducible first | exact HB.out | apply below_alloc | apply pw_below_drewN | apply below_drew1 | refine below_set ?_ (Aside0.out (by assumption))) | exact HB.out)⟩
end Go.Proofs.YtbodlnoipkommaaDoor.Q

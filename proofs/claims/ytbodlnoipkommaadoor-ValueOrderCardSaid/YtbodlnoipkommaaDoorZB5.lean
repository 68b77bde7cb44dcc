/- Merged out of this session's texts: Wm, Wj, Qxf60, Wn -/
import Derived.Test.YtbodlnoipkommaaDoorZB2
import Derived.Test.YtbodlnoipkommaaDoorZB4
import Derived.Deep.RegionHeld3
import Derived.Test.YtbodlnoipkommaaDoorZB1
namespace Go.Proofs.YtbodlnoipkommaaDoor.Wm
open Go.RowKit Go.Proofs.YtbodlnoipkommaaDoor.Q Go.Proofs.YtbodlnoipkommaaDoor.We Go.Proofs.YtbodlnoipkommaaDoor.Wi Go.Proofs.YtbodlnoipkommaaDoorW.PrintWords Go.Proofs.YtbodlnoipkommaaDoorW.PrintLast Go.Proofs.YtbodlnoipkommaaDoorW.PrintMore
set_option maxHeartbeats 1000000 in
theorem ofn (k n : Int) (s : ByteArray) (r1 r2 : Int) (w : World) (h : value_of.f n = some (r1, r2)) :
    Calls Tryd.prog 84 #[.agg #[.int .u8 k, .int .i64 n, .string s]] w fun e w' => e = .returned (.agg #[.int .i64 r1, .int .u64 r2]) ∧ Below w.heap.size w w' := by
  have N := Aside0.mk (value_of.calls n r1 r2 · h)
  clear h
  go_enter Tryd.func84, Tryd.ntmps84
  go_wp2_with fail
  refine (N.out _).mono ?_
  rintro e w1 ⟨rfl, hb⟩
  obtain ⟨c1, f1⟩ := bcell hb
  have c11 := fun o => c1 (w.heap.size + 1) o (by first | (simp; done) | (simp; omega) | omega)
  have f11 := fun o => f1 (w.heap.size + 1) o (by first | (simp; done) | (simp; omega) | omega)
  clear c1 f1
  replace hb := Aside0.mk hb
  go_wp2_with fail
  simp [bodyPost, results, Tryd.results84, go_sem, c11, f11]
  exact ((below_step (below_alloc (below_alloc (Below.refl _ _) _) _) hb.out).setCell (by simp) _).setCell (by simp) _
set_option maxHeartbeats 1000000 in
theorem same (a b : Int) (w : World) :
    Calls Tryd.prog 57 #[.agg #[.int .i64 a, .int .u64 b]] w fun e w' => e = .returned (.agg #[.int .i64 a, .int .u64 b]) ∧ Below w.heap.size w w' := by
  go_enter Tryd.func57, Tryd.ntmps57
  go_wp2_with fail
  simp [bodyPost, results, Tryd.results57, go_sem]
  exact below_alloc (below_alloc (Below.refl _ _) _) _
theorem fz_below {w w1 : World} (h : Below w.heap.size w w1) {b o : Nat} {v : Value} (hc : w.cell? ⟨b, o, none⟩ = some v) (hf : w.frozen? ⟨b, o, none⟩ = false) : w1.frozen? ⟨b, o, none⟩ = false := (h.frozen (p := ⟨b, o, none⟩) (World.block_lt_of_cell? w _ hc)).trans hf
theorem set_ok {w W : World} (h : Below w.heap.size w W) {b o : Nat} (hb : w.heap.size ≤ b) (v : Value) : Below w.heap.size w (W.setCell ⟨b, o, none⟩ v) := h.setCell hb v
/-- A block of two cells of its own. -/
def Two (t : TypeId) (b : Nat) (w : World) : Prop := ∃ u v, w.heap[b]? = some (.cells #[u, v] t (0, 0))
theorem Two.below {t : TypeId} {b : Nat} {w w1 : World} (h : Two t b w) (hb : Below w.heap.size w w1) : Two t b w1 := by
  obtain ⟨u, v, h⟩ := h
  exact ⟨u, v, blk_below h hb⟩
theorem Two.set {t : TypeId} {b : Nat} {w : World} (h : Two t b w) (o : Nat) (x : Value) : Two t b (w.setCell ⟨b, o, none⟩ x) := by
  obtain ⟨u, v, h⟩ := h
  have e : (w.setCell ⟨b, o, none⟩ x).heap[b]? = some (.cells (#[u, v].setIfInBounds o x) t (0, 0)) := by
    unfold World.setCell
    simp [Array.getElem?_modify, h]
  match o with
  | 0 => exact ⟨x, v, e⟩
  | 1 => exact ⟨u, x, e⟩
  | o + 2 => exact ⟨u, v, by rw [e]; simp⟩
theorem Two.cells {t : TypeId} {b : Nat} {w : World} (h : Two t b w) : ∃ u v, w.cell? ⟨b, 0, none⟩ = some u ∧ w.cell? ⟨b, 1, none⟩ = some v ∧ w.frozen? ⟨b, 0, none⟩ = false ∧ w.frozen? ⟨b, 1, none⟩ = false := by
  obtain ⟨u, v, h⟩ := h
  refine ⟨u, v, by rw [blk_cell h]; rfl, by rw [blk_cell h]; rfl, ?_, ?_⟩ <;> simp [World.frozen?, h]
set_option maxRecDepth 100000 in
set_option maxHeartbeats 4000000 in
theorem both_84_57 (A T B : Nat) (k0 n0 : Int) (s0 : ByteArray) (k1 n1 : Int) (s1 : ByteArray) (x0 x1 y0 y1 r0 r1 : Int) (w : World)
    (a0 : w.cell? ⟨A, 0, none⟩ = some (.int .u8 k0)) (a1 : w.cell? ⟨A, 1, none⟩ = some (.int .i64 n0)) (a2 : w.cell? ⟨A, 2, none⟩ = some (.string s0))
    (b0 : w.cell? ⟨B, 0, none⟩ = some (.int .u8 k1)) (b1 : w.cell? ⟨B, 1, none⟩ = some (.int .i64 n1)) (b2 : w.cell? ⟨B, 2, none⟩ = some (.string s1))
    (t0 : w.cell? ⟨T, 0, none⟩ = some (.func (.func 57) #[] #[]))
    (hx : value_of.f n0 = some (x0, x1)) (hy : value_of.f n1 = some (y0, y1)) (hp : value_wide_plus.f x0 x1 y0 y1 = some (r0, r1)) :
    Calls Tryd.prog 83 #[.func (.func 84) #[] #[], .pointer (some ⟨A, 0, none⟩), .pointer (some ⟨T, 0, none⟩), .pointer (some ⟨B, 0, none⟩)] w fun e w' => e = .returned (.agg #[.int .i64 r0, .int .u64 r1]) ∧ Below w.heap.size w w' := by
  have la0 := World.block_lt_of_cell? w _ a0
  have lb0 := World.block_lt_of_cell? w _ b0
  have lt0 := World.block_lt_of_cell? w _ t0
  have X := Aside0.mk (ofn k0 n0 s0 x0 x1 · hx)
  have Y := Aside0.mk (ofn k1 n1 s1 y0 y1 · hy)
  have M := Aside0.mk (fun W => same y0 y1 W)
  have P := Aside0.mk (value_wide_plus.calls x0 x1 y0 y1 r0 r1 · hp)
  clear hx hy hp
  have W0 : Below w.heap.size w (w.alloc (.cells #[.int .i64 0, .int .u64 0] 49)).drew := below_drew1 (below_alloc (Below.refl _ _) _)
  have St0 := Aside0.mk (show Below w.heap.size w (w.alloc (.cells #[.int .i64 0, .int .u64 0] 49)).drew ∧ Two 49 w.heap.size (w.alloc (.cells #[.int .i64 0, .int .u64 0] 49)).drew from ⟨W0, _, _, heap_alloc_new w _⟩)
  clear W0
  have ra0 : ∀ W, Below w.heap.size w W → W.cell? ⟨A, 0, none⟩ = some (.int .u8 k0) := fun W h => pw_cell_below h a0
  have ra1 : ∀ W, Below w.heap.size w W → W.cell? ⟨A, 1, none⟩ = some (.int .i64 n0) := fun W h => pw_cell_below h a1
  have ra2 : ∀ W, Below w.heap.size w W → W.cell? ⟨A, 2, none⟩ = some (.string s0) := fun W h => pw_cell_below h a2
  have rb0 : ∀ W, Below w.heap.size w W → W.cell? ⟨B, 0, none⟩ = some (.int .u8 k1) := fun W h => pw_cell_below h b0
  have rb1 : ∀ W, Below w.heap.size w W → W.cell? ⟨B, 1, none⟩ = some (.int .i64 n1) := fun W h => pw_cell_below h b1
  have rb2 : ∀ W, Below w.heap.size w W → W.cell? ⟨B, 2, none⟩ = some (.string s1) := fun W h => pw_cell_below h b2
  have rt0 : ∀ W, Below w.heap.size w W → W.cell? ⟨T, 0, none⟩ = some (.func (.func 57) #[] #[]) := fun W h => pw_cell_below h t0
  clear a0 a1 a2 b0 b1 b2 t0
  go_enter Tryd.func83, Tryd.ntmps83
  go_wp2_with fail
  go_region_held3 (fun w' => Below w.heap.size w w' ∧ Two 49 w.heap.size w')
    (first | (with_reducible exact St0.out) | (go_split_ands; exact ⟨below_step (by assumption) hb, Two.below (by assumption) hb⟩) | (go_split_ands; exact ⟨set_ok (set_ok (by assumption) (Nat.le_refl _) _) (Nat.le_refl _) _, Two.set (Two.set (by assumption) _ _) _ _⟩))
    (first | (((with_reducible refine (X.out _).mono ?_); rintro e w' ⟨rfl, hb⟩)) | (((with_reducible refine (Y.out _).mono ?_); rintro e w' ⟨rfl, hb⟩)) | (((with_reducible refine (M.out _).mono ?_); rintro e w' ⟨rfl, hb⟩)) | (((with_reducible refine (P.out _).mono ?_); rintro e w' ⟨rfl, hb⟩; go_split_ands; have q2 : Two 49 w.heap.size w' := Two.below (by assumption) hb; obtain ⟨u0, u1, q0, q1, f0, f1⟩ := q2.cells)))
  go_wp2
  simp [bodyPost, results, Tryd.results83, go_sem, q0, q1, f0, f1]
  go_split_ands
  exact set_ok (set_ok (below_step (by assumption) hb) (Nat.le_refl _) _) (Nat.le_refl _) _
set_option maxRecDepth 100000 in
set_option maxHeartbeats 4000000 in
theorem both_84_41 (A T B : Nat) (k0 n0 : Int) (s0 : ByteArray) (k1 n1 : Int) (s1 : ByteArray) (x0 x1 y0 y1 v0 v1 r0 r1 : Int) (w : World)
    (a0 : w.cell? ⟨A, 0, none⟩ = some (.int .u8 k0)) (a1 : w.cell? ⟨A, 1, none⟩ = some (.int .i64 n0)) (a2 : w.cell? ⟨A, 2, none⟩ = some (.string s0))
    (b0 : w.cell? ⟨B, 0, none⟩ = some (.int .u8 k1)) (b1 : w.cell? ⟨B, 1, none⟩ = some (.int .i64 n1)) (b2 : w.cell? ⟨B, 2, none⟩ = some (.string s1))
    (t0 : w.cell? ⟨T, 0, none⟩ = some (.func (.func 41) #[] #[]))
    (hx : value_of.f n0 = some (x0, x1)) (hy : value_of.f n1 = some (y0, y1)) (ht : value_wide_minus.f y0 y1 = some (v0, v1)) (hp : value_wide_plus.f x0 x1 v0 v1 = some (r0, r1)) :
    Calls Tryd.prog 83 #[.func (.func 84) #[] #[], .pointer (some ⟨A, 0, none⟩), .pointer (some ⟨T, 0, none⟩), .pointer (some ⟨B, 0, none⟩)] w fun e w' => e = .returned (.agg #[.int .i64 r0, .int .u64 r1]) ∧ Below w.heap.size w w' := by
  have la0 := World.block_lt_of_cell? w _ a0
  have lb0 := World.block_lt_of_cell? w _ b0
  have lt0 := World.block_lt_of_cell? w _ t0
  have X := Aside0.mk (ofn k0 n0 s0 x0 x1 · hx)
  have Y := Aside0.mk (ofn k1 n1 s1 y0 y1 · hy)
  have M := Aside0.mk (fun W => value_wide_minus.calls y0 y1 v0 v1 W ht)
  have P := Aside0.mk (value_wide_plus.calls x0 x1 v0 v1 r0 r1 · hp)
  clear hx hy ht hp
  have W0 : Below w.heap.size w (w.alloc (.cells #[.int .i64 0, .int .u64 0] 49)).drew := below_drew1 (below_alloc (Below.refl _ _) _)
  have St0 := Aside0.mk (show Below w.heap.size w (w.alloc (.cells #[.int .i64 0, .int .u64 0] 49)).drew ∧ Two 49 w.heap.size (w.alloc (.cells #[.int .i64 0, .int .u64 0] 49)).drew from ⟨W0, _, _, heap_alloc_new w _⟩)
  clear W0
  have ra0 : ∀ W, Below w.heap.size w W → W.cell? ⟨A, 0, none⟩ = some (.int .u8 k0) := fun W h => pw_cell_below h a0
  have ra1 : ∀ W, Below w.heap.size w W → W.cell? ⟨A, 1, none⟩ = some (.int .i64 n0) := fun W h => pw_cell_below h a1
  have ra2 : ∀ W, Below w.heap.size w W → W.cell? ⟨A, 2, none⟩ = some (.string s0) := fun W h => pw_cell_below h a2
  have rb0 : ∀ W, Below w.heap.size w W → W.cell? ⟨B, 0, none⟩ = some (.int .u8 k1) := fun W h => pw_cell_below h b0
  have rb1 : ∀ W, Below w.heap.size w W → W.cell? ⟨B, 1, none⟩ = some (.int .i64 n1) := fun W h => pw_cell_below h b1
  have rb2 : ∀ W, Below w.heap.size w W → W.cell? ⟨B, 2, none⟩ = some (.string s1) := fun W h => pw_cell_below h b2
  have rt0 : ∀ W, Below w.heap.size w W → W.cell? ⟨T, 0, none⟩ = some (.func (.func 41) #[] #[]) := fun W h => pw_cell_below h t0
  clear a0 a1 a2 b0 b1 b2 t0
  go_enter Tryd.func83, Tryd.ntmps83
  go_wp2_with fail
  go_region_held3 (fun w' => Below w.heap.size w w' ∧ Two 49 w.heap.size w')
    (first | (with_reducible exact St0.out) | (go_split_ands; exact ⟨below_step (by assumption) hb, Two.below (by assumption) hb⟩) | (go_split_ands; exact ⟨set_ok (set_ok (by assumption) (Nat.le_refl _) _) (Nat.le_refl _) _, Two.set (Two.set (by assumption) _ _) _ _⟩))
    (first | (((with_reducible refine (X.out _).mono ?_); rintro e w' ⟨rfl, hb⟩)) | (((with_reducible refine (Y.out _).mono ?_); rintro e w' ⟨rfl, hb⟩)) | (((with_reducible refine (M.out _).mono ?_); rintro e w' ⟨rfl, hb⟩)) | (((with_reducible refine (P.out _).mono ?_); rintro e w' ⟨rfl, hb⟩; go_split_ands; have q2 : Two 49 w.heap.size w' := Two.below (by assumption) hb; obtain ⟨u0, u1, q0, q1, f0, f1⟩ := q2.cells)))
  go_wp2
  simp [bodyPost, results, Tryd.results83, go_sem, q0, q1, f0, f1]
  go_split_ands
  exact set_ok (set_ok (below_step (by assumption) hb) (Nat.le_refl _) _) (Nat.le_refl _) _
set_option maxRecDepth 100000 in
set_option maxHeartbeats 4000000 in
theorem both_39_57 (A T B : Nat) (k0 n0 : Int) (s0 : ByteArray) (k1 n1 : Int) (s1 : ByteArray) (x0 x1 y0 y1 r0 r1 : Int) (w : World)
    (a0 : w.cell? ⟨A, 0, none⟩ = some (.int .u8 k0)) (a1 : w.cell? ⟨A, 1, none⟩ = some (.int .i64 n0)) (a2 : w.cell? ⟨A, 2, none⟩ = some (.string s0))
    (b0 : w.cell? ⟨B, 0, none⟩ = some (.int .u8 k1)) (b1 : w.cell? ⟨B, 1, none⟩ = some (.int .i64 n1)) (b2 : w.cell? ⟨B, 2, none⟩ = some (.string s1))
    (t0 : w.cell? ⟨T, 0, none⟩ = some (.func (.func 57) #[] #[]))
    (hx : value_fixed.f k0 n0 s0 = some (x0, x1)) (hy : value_fixed.f k1 n1 s1 = some (y0, y1)) (hp : value_wide_plus.f x0 x1 y0 y1 = some (r0, r1)) :
    Calls Tryd.prog 83 #[.func (.func 39) #[] #[], .pointer (some ⟨A, 0, none⟩), .pointer (some ⟨T, 0, none⟩), .pointer (some ⟨B, 0, none⟩)] w fun e w' => e = .returned (.agg #[.int .i64 r0, .int .u64 r1]) ∧ Below w.heap.size w w' := by
  have la0 := World.block_lt_of_cell? w _ a0
  have lb0 := World.block_lt_of_cell? w _ b0
  have lt0 := World.block_lt_of_cell? w _ t0
  have X := Aside0.mk (value_fixed.calls k0 n0 s0 x0 x1 · hx)
  have Y := Aside0.mk (value_fixed.calls k1 n1 s1 y0 y1 · hy)
  have M := Aside0.mk (fun W => same y0 y1 W)
  have P := Aside0.mk (value_wide_plus.calls x0 x1 y0 y1 r0 r1 · hp)
  clear hx hy hp
  have W0 : Below w.heap.size w (w.alloc (.cells #[.int .i64 0, .int .u64 0] 49)).drew := below_drew1 (below_alloc (Below.refl _ _) _)
  have St0 := Aside0.mk (show Below w.heap.size w (w.alloc (.cells #[.int .i64 0, .int .u64 0] 49)).drew ∧ Two 49 w.heap.size (w.alloc (.cells #[.int .i64 0, .int .u64 0] 49)).drew from ⟨W0, _, _, heap_alloc_new w _⟩)
  clear W0
  have ra0 : ∀ W, Below w.heap.size w W → W.cell? ⟨A, 0, none⟩ = some (.int .u8 k0) := fun W h => pw_cell_below h a0
  have ra1 : ∀ W, Below w.heap.size w W → W.cell? ⟨A, 1, none⟩ = some (.int .i64 n0) := fun W h => pw_cell_below h a1
  have ra2 : ∀ W, Below w.heap.size w W → W.cell? ⟨A, 2, none⟩ = some (.string s0) := fun W h => pw_cell_below h a2
  have rb0 : ∀ W, Below w.heap.size w W → W.cell? ⟨B, 0, none⟩ = some (.int .u8 k1) := fun W h => pw_cell_below h b0
  have rb1 : ∀ W, Below w.heap.size w W → W.cell? ⟨B, 1, none⟩ = some (.int .i64 n1) := fun W h => pw_cell_below h b1
  have rb2 : ∀ W, Below w.heap.size w W → W.cell? ⟨B, 2, none⟩ = some (.string s1) := fun W h => pw_cell_below h b2
  have rt0 : ∀ W, Below w.heap.size w W → W.cell? ⟨T, 0, none⟩ = some (.func (.func 57) #[] #[]) := fun W h => pw_cell_below h t0
  clear a0 a1 a2 b0 b1 b2 t0
  go_enter Tryd.func83, Tryd.ntmps83
  go_wp2_with fail
  go_region_held3 (fun w' => Below w.heap.size w w' ∧ Two 49 w.heap.size w')
    (first | (with_reducible exact St0.out) | (go_split_ands; exact ⟨below_step (by assumption) hb, Two.below (by assumption) hb⟩) | (go_split_ands; exact ⟨set_ok (set_ok (by assumption) (Nat.le_refl _) _) (Nat.le_refl _) _, Two.set (Two.set (by assumption) _ _) _ _⟩))
    (first | (((with_reducible refine (X.out _).mono ?_); rintro e w' ⟨rfl, hb⟩)) | (((with_reducible refine (Y.out _).mono ?_); rintro e w' ⟨rfl, hb⟩)) | (((with_reducible refine (M.out _).mono ?_); rintro e w' ⟨rfl, hb⟩)) | (((with_reducible refine (P.out _).mono ?_); rintro e w' ⟨rfl, hb⟩; go_split_ands; have q2 : Two 49 w.heap.size w' := Two.below (by assumption) hb; obtain ⟨u0, u1, q0, q1, f0, f1⟩ := q2.cells)))
  go_wp2
  simp [bodyPost, results, Tryd.results83, go_sem, q0, q1, f0, f1]
  go_split_ands
  exact set_ok (set_ok (below_step (by assumption) hb) (Nat.le_refl _) _) (Nat.le_refl _) _
set_option maxRecDepth 100000 in
set_option maxHeartbeats 4000000 in
theorem both_39_41 (A T B : Nat) (k0 n0 : Int) (s0 : ByteArray) (k1 n1 : Int) (s1 : ByteArray) (x0 x1 y0 y1 v0 v1 r0 r1 : Int) (w : World)
    (a0 : w.cell? ⟨A, 0, none⟩ = some (.int .u8 k0)) (a1 : w.cell? ⟨A, 1, none⟩ = some (.int .i64 n0)) (a2 : w.cell? ⟨A, 2, none⟩ = some (.string s0))
    (b0 : w.cell? ⟨B, 0, none⟩ = some (.int .u8 k1)) (b1 : w.cell? ⟨B, 1, none⟩ = some (.int .i64 n1)) (b2 : w.cell? ⟨B, 2, none⟩ = some (.string s1))
    (t0 : w.cell? ⟨T, 0, none⟩ = some (.func (.func 41) #[] #[]))
    (hx : value_fixed.f k0 n0 s0 = some (x0, x1)) (hy : value_fixed.f k1 n1 s1 = some (y0, y1)) (ht : value_wide_minus.f y0 y1 = some (v0, v1)) (hp : value_wide_plus.f x0 x1 v0 v1 = some (r0, r1)) :
    Calls Tryd.prog 83 #[.func (.func 39) #[] #[], .pointer (some ⟨A, 0, none⟩), .pointer (some ⟨T, 0, none⟩), .pointer (some ⟨B, 0, none⟩)] w fun e w' => e = .returned (.agg #[.int .i64 r0, .int .u64 r1]) ∧ Below w.heap.size w w' := by
  have la0 := World.block_lt_of_cell? w _ a0
  have lb0 := World.block_lt_of_cell? w _ b0
  have lt0 := World.block_lt_of_cell? w _ t0
  have X := Aside0.mk (value_fixed.calls k0 n0 s0 x0 x1 · hx)
  have Y := Aside0.mk (value_fixed.calls k1 n1 s1 y0 y1 · hy)
  have M := Aside0.mk (fun W => value_wide_minus.calls y0 y1 v0 v1 W ht)
  have P := Aside0.mk (value_wide_plus.calls x0 x1 v0 v1 r0 r1 · hp)
  clear hx hy ht hp
  have W0 : Below w.heap.size w (w.alloc (.cells #[.int .i64 0, .int .u64 0] 49)).drew := below_drew1 (below_alloc (Below.refl _ _) _)
  have St0 := Aside0.mk (show Below w.heap.size w (w.alloc (.cells #[.int .i64 0, .int .u64 0] 49)).drew ∧ Two 49 w.heap.size (w.alloc (.cells #[.int .i64 0, .int .u64 0] 49)).drew from ⟨W0, _, _, heap_alloc_new w _⟩)
  clear W0
  have ra0 : ∀ W, Below w.heap.size w W → W.cell? ⟨A, 0, none⟩ = some (.int .u8 k0) := fun W h => pw_cell_below h a0
  have ra1 : ∀ W, Below w.heap.size w W → W.cell? ⟨A, 1, none⟩ = some (.int .i64 n0) := fun W h => pw_cell_below h a1
  have ra2 : ∀ W, Below w.heap.size w W → W.cell? ⟨A, 2, none⟩ = some (.string s0) := fun W h => pw_cell_below h a2
  have rb0 : ∀ W, Below w.heap.size w W → W.cell? ⟨B, 0, none⟩ = some (.int .u8 k1) := fun W h => pw_cell_below h b0
  have rb1 : ∀ W, Below w.heap.size w W → W.cell? ⟨B, 1, none⟩ = some (.int .i64 n1) := fun W h => pw_cell_below h b1
  have rb2 : ∀ W, Below w.heap.size w W → W.cell? ⟨B, 2, none⟩ = some (.string s1) := fun W h => pw_cell_below h b2
  have rt0 : ∀ W, Below w.heap.size w W → W.cell? ⟨T, 0, none⟩ = some (.func (.func 41) #[] #[]) := fun W h => pw_cell_below h t0
  clear a0 a1 a2 b0 b1 b2 t0
  go_enter Tryd.func83, Tryd.ntmps83
  go_wp2_with fail
  go_region_held3 (fun w' => Below w.heap.size w w' ∧ Two 49 w.heap.size w')
    (first | (with_reducible exact St0.out) | (go_split_ands; exact ⟨below_step (by assumption) hb, Two.below (by assumption) hb⟩) | (go_split_ands; exact ⟨set_ok (set_ok (by assumption) (Nat.le_refl _) _) (Nat.le_refl _) _, Two.set (Two.set (by assumption) _ _) _ _⟩))
    (first | (((with_reducible refine (X.out _).mono ?_); rintro e w' ⟨rfl, hb⟩)) | (((with_reducible refine (Y.out _).mono ?_); rintro e w' ⟨rfl, hb⟩)) | (((with_reducible refine (M.out _).mono ?_); rintro e w' ⟨rfl, hb⟩)) | (((with_reducible refine (P.out _).mono ?_); rintro e w' ⟨rfl, hb⟩; go_split_ands; have q2 : Two 49 w.heap.size w' := Two.below (by assumption) hb; obtain ⟨u0, u1, q0, q1, f0, f1⟩ := q2.cells)))
  go_wp2
  simp [bodyPost, results, Tryd.results83, go_sem, q0, q1, f0, f1]
  go_split_ands
  exact set_ok (set_ok (below_step (by assumption) hb) (Nat.le_refl _) _) (Nat.le_refl _) _
end Go.Proofs.YtbodlnoipkommaaDoor.Wm
/- value.asked: its contract in the print's form. -/
namespace Go.Proofs.YtbodlnoipkommaaDoor.Wj
open Go.RowKit Go.Proofs.YtbodlnoipkommaaDoor.Q Go.Proofs.YtbodlnoipkommaaDoor.Wh Go.Proofs.YtbodlnoipkommaaDoor.Wi Go.Proofs.YtbodlnoipkommaaDoorW.PrintWords Go.Proofs.YtbodlnoipkommaaDoorW.PrintLast Go.Proofs.YtbodlnoipkommaaDoorW.PrintMore
def value_asked.f (k0 n0 : Int) (s0 : ByteArray) (k1 n1 : Int) (s1 : ByteArray) : Option (Bool × Int) := some (askedR k0 n0 s0 k1 n1 s1)
theorem three (k : Int) : k = 0 ∨ ((k == 0) = false ∧ (k != 0) = true ∧ numB k = true) ∨ ((k == 0) = false ∧ (k != 0) = true ∧ numB k = false) := by
  by_cases h : k = 0
  · exact Or.inl h
  · have a : (k == 0) = false := beq_false_of_ne h
    have b : (k != 0) = true := by simpa [bne] using h
    cases hn : numB k
    · exact Or.inr (Or.inr ⟨a, b, rfl⟩)
    · exact Or.inr (Or.inl ⟨a, b, rfl⟩)
theorem value_asked.calls (k0 n0 : Int) (s0 : ByteArray) (k1 n1 : Int) (s1 : ByteArray) (r1 : Bool) (r2 : Int) (w : World) (h : value_asked.f k0 n0 s0 k1 n1 s1 = some (r1, r2)) :
    Calls Tryd.prog 58 #[.agg #[.int .u8 k0, .int .i64 n0, .string s0], .agg #[.int .u8 k1, .int .i64 n1, .string s1]] w fun e w' => e = .returned (.tuple #[.bool r1, .int .i64 r2]) ∧ Below w.heap.size w w' := by
  injection h with h
  unfold askedR at h
  cases hr : rightB k0 n0 s0
  · rw [hr] at h; simp only [Bool.not_false, Bool.true_or, if_true] at h
    injection h with e1 e2; subst e1 e2
    exact wrong0 k0 n0 s0 k1 n1 s1 w hr
  cases hr1 : rightB k1 n1 s1
  · rw [hr, hr1] at h; simp only [Bool.not_false, Bool.not_true, Bool.or_true, if_true] at h
    injection h with e1 e2; subst e1 e2
    exact wrong1 k0 n0 s0 k1 n1 s1 w hr hr1
  rw [hr, hr1] at h
  simp only [Bool.not_true, Bool.or_false, Bool.false_eq_true, if_false] at h
  rcases three k0 with rfl | ⟨z0, y0, q0⟩ | ⟨z0, y0, q0⟩
  · rcases three k1 with rfl | ⟨z1, y1, q1⟩ | ⟨z1, y1, q1⟩
    · injection h with e1 e2; subst e1 e2
      exact a_null_null n0 s0 n1 s1 w hr hr1
    · have hb : badB k1 = false := by unfold badB; rw [z1, q1]; rfl
      rw [hb] at h
      injection h with e1 e2; subst e1 e2
      exact a_null_num n0 s0 k1 n1 s1 w hr hr1 q1 z1 y1
    · have hb : badB k1 = true := by unfold badB; rw [z1, q1]; rfl
      rw [hb, Bool.or_true, if_pos rfl] at h
      injection h with e1 e2; subst e1 e2
      exact a_null_bad n0 s0 k1 n1 s1 w hr hr1 q1 z1 y1
  · have hb0 : badB k0 = false := by unfold badB; rw [z0, q0]; rfl
    rw [hb0, z0] at h
    rcases three k1 with rfl | ⟨z1, y1, q1⟩ | ⟨z1, y1, q1⟩
    · injection h with e1 e2; subst e1 e2
      exact a_num_null k0 n0 s0 n1 s1 w hr hr1 q0 z0 y0
    · have hb : badB k1 = false := by unfold badB; rw [z1, q1]; rfl
      rw [hb, z1] at h
      injection h with e1 e2; subst e1 e2
      exact a_num_num k0 n0 s0 k1 n1 s1 w hr hr1 q0 z0 y0 q1 z1 y1
    · have hb : badB k1 = true := by unfold badB; rw [z1, q1]; rfl
      rw [hb, Bool.or_true, if_pos rfl] at h
      injection h with e1 e2; subst e1 e2
      exact a_num_bad k0 n0 s0 k1 n1 s1 w hr hr1 q0 z0 y0 q1 z1 y1
  · have hb0 : badB k0 = true := by unfold badB; rw [z0, q0]; rfl
    rw [hb0, Bool.true_or, if_pos rfl] at h
    injection h with e1 e2; subst e1 e2
    exact a_bad_any k0 n0 s0 k1 n1 s1 w hr hr1 q0 z0 y0
end Go.Proofs.YtbodlnoipkommaaDoor.Wj
-- By a program of this session (wip/printx.py) out of the translation. Not trusted: Lean checks it.
namespace Go.Proofs.YtbodlnoipkommaaDoor.Q
open Go.RowKit Go.Proofs.YtbodlnoipkommaaDoorW.PrintWords Go.Proofs.YtbodlnoipkommaaDoorW.PrintLast Go.Proofs.YtbodlnoipkommaaDoorW.PrintMore
attribute [local go_sem] max2_int min2_int max_two min_two max_three min_three max_four min_four   -- for this text's walks alone
set_option linter.unusedVariables false
set_option linter.unusedSimpArgs false

/-! ### value_wide_told: function 60 -/
def value_wide_told.f (a0_0 : Int) (a0_1 : Int) (a1 : Int) : Option (Int × Int × ByteArray × Int) := if a0_0 = ((wrap64 (a0_1)) / 9223372036854775808) then (some (a1, wrap64 (a0_1), (⟨#[]⟩ : ByteArray), 0)) else (some (0, 0, (⟨#[]⟩ : ByteArray), 271))
set_option maxHeartbeats 8000000 in
set_option maxRecDepth 100000 in
theorem value_wide_told.calls (a0_0 : Int) (a0_1 : Int) (a1 : Int) (r1 : Int) (r2 : Int) (r3 : ByteArray) (r4 : Int) (w : World) (h : value_wide_told.f a0_0 a0_1 a1 = some (r1, r2, r3, r4)) :
    Calls Tryd.prog 60 #[.agg #[.int .i64 a0_0, .int .u64 a0_1], .int .u8 a1] w fun e w' => e = .returned (.tuple #[.agg #[.int .u8 r1, .int .i64 r2, .string r3], .int .i64 r4]) ∧ Below w.heap.size w w' := by
  have hu49 := Tryd.underlying49
  have hu25 := Tryd.underlying25
  have HB := Aside0.mk (Below.refl w.heap.size w)
  have H : (if a0_0 = ((wrap64 (a0_1)) / 9223372036854775808) then (some (a1, wrap64 (a0_1), (⟨#[]⟩ : ByteArray), 0)) else (some (0, 0, (⟨#[]⟩ : ByteArray), 271))) = some (r1, r2, r3, r4) := h
  clear h
  by_cases c3 : a0_0 = ((wrap64 (a0_1)) / 9223372036854775808)
  · rw [if_pos c3] at H
    have c3b0 : (a0_0 == ((wrap64 (a0_1)) / 9223372036854775808)) = true := beq_iff_eq.mpr c3
    have c3b1 : (a0_0 != ((wrap64 (a0_1)) / 9223372036854775808)) = false := bne_eq_false_iff_eq.mpr c3
    clear c3
    simp only [Option.some.injEq, Prod.mk.injEq] at H
    obtain ⟨rfl, rfl, rfl, rfl⟩ := H
    go_enter Tryd.func60, Tryd.ntmps60
    go_wp2_with (first | ((with_reducible refine gate_dst (N := 2) rfl ?_); refine box_event ?hg (N := 2) ?hd (cs := #[.int .i64 a0_0, .int .u64 a0_1]) (t := 49) ?hr ?_; (case hd => rfl); (case hg => rfl); (case hr => first | (go_simp; done) | (go_simp; rfl)); intro gb161 hg w4 hbox hb; have n0_ := Aside0.mk (below_step (by repeat (first | (with_reducible first | exact HB.out | apply below_alloc | apply pw_below_drewN | apply below_drew1) | exact HB.out)) hb); have n1_ := Aside0.mk (hbox); have n2_ := Aside0.mk ((by rw [hg]; exact (below_size (by repeat (first | (with_reducible first | exact HB.out | apply below_alloc | apply pw_below_drewN | apply below_drew1) | exact HB.out))) : w.heap.size ≤ gb161)); have n3_ := Aside0.mk ((by rw [hg]; exact (below_size (by repeat (first | (with_reducible first | exact HB.out | apply below_alloc | apply pw_below_drewN | apply below_drew1) | exact HB.out))) : w.heap.size ≤ gb161)); clear HB; have HB := n0_; have BK161 := n1_; have GW161 := n2_; have GE161 := n3_; clear n0_ n1_ n2_ n3_; clear hb hbox hg) | ((with_reducible refine gate_dst (N := 4) rfl ?_); refine box_event ?hg (N := 4) ?hd (cs := #[.int .u8 0, .int .i64 0, .string (⟨#[]⟩ : ByteArray)]) (t := 25) ?hr ?_; (case hd => rfl); (case hg => rfl); (case hr => first | (go_simp; done) | (go_simp; rfl)); intro gb162 hg w5 hbox hb; have n0_ := Aside0.mk (blk_below (g := gb161) (o := .cells #[.int .i64 a0_0, .int .u64 a0_1] 49 (0, 0)) (by (with_reducible repeat (first | refine blk_drewN ?_ _ | refine blk_drew ?_ | refine blk_alloc ?_ _)); exact BK161.out) hb); have n1_ := Aside0.mk (below_step (by repeat (first | (with_reducible first | exact HB.out | apply below_alloc | apply pw_below_drewN | apply below_drew1 | refine below_set ?_ GE161.out) | exact HB.out)) hb); have n2_ := Aside0.mk (hbox); have n3_ := Aside0.mk ((by rw [hg]; exact (below_size (by repeat (first | (with_reducible first | exact HB.out | apply below_alloc | apply pw_below_drewN | apply below_drew1 | refine below_set ?_ GE161.out) | exact HB.out))) : w.heap.size ≤ gb162)); have n4_ := Aside0.mk ((by rw [hg]; exact (below_size (by repeat (first | (with_reducible first | exact HB.out | apply below_alloc | apply pw_below_drewN | apply below_drew1 | refine below_set ?_ GE161.out) | exact HB.out))) : w.heap.size ≤ gb162)); have n5_ := Aside0.mk ((by rw [hg]; exact Nat.ne_of_lt (blk_lt (g := gb161) (o := .cells #[.int .i64 a0_0, .int .u64 a0_1] 49 (0, 0)) (by (with_reducible repeat (first | refine blk_drewN ?_ _ | refine blk_drew ?_ | refine blk_alloc ?_ _)); exact BK161.out)) : gb161 ≠ gb162)); have n6_ := Aside0.mk ((by rw [hg]; exact Nat.ne_of_gt (blk_lt (g := gb161) (o := .cells #[.int .i64 a0_0, .int .u64 a0_1] 49 (0, 0)) (by (with_reducible repeat (first | refine blk_drewN ?_ _ | refine blk_drew ?_ | refine blk_alloc ?_ _)); exact BK161.out)) : gb162 ≠ gb161)); clear BK161; clear HB; have BK161 := n0_; have HB := n1_; have BK162 := n2_; have GW162 := n3_; have GE162 := n4_; have NB161_162 := n5_; have NB162_161 := n6_; clear n0_ n1_ n2_ n3_ n4_ n5_ n6_; clear hb hbox hg; have hnb6 := NB161_162.out; have hnc6 := NB162_161.out; have hcz7_0 : w5.cell? ⟨gb161, 0, none⟩ = some (.int .i64 a0_0) := (blk_cell BK161.out 0).trans rfl; have hcz7_1 : w5.cell? ⟨gb161, 1, none⟩ = some (.int .u64 a0_1) := (blk_cell BK161.out 1).trans rfl; have hfz7_0 := blk_frozen BK161.out 0; have hfz7_1 := blk_frozen BK161.out 1; have hcz8_0 : w5.cell? ⟨gb162, 0, none⟩ = some (.int .u8 0) := (blk_cell BK162.out 0).trans rfl; have hcz8_1 : w5.cell? ⟨gb162, 1, none⟩ = some (.int .i64 0) := (blk_cell BK162.out 1).trans rfl; have hcz8_2 : w5.cell? ⟨gb162, 2, none⟩ = some (.string (⟨#[]⟩ : ByteArray)) := (blk_cell BK162.out 2).trans rfl; have hfz8_0 := blk_frozen BK162.out 0; have hfz8_1 := blk_frozen BK162.out 1; have hfz8_2 := blk_frozen BK162.out 2))
    refine bodyPost_ret (results_ct rfl _ _ gb162 25 #[.int .u8 a1, .int .i64 (wrap64 (a0_1)), .string (⟨#[]⟩ : ByteArray)] (0, 0) _ rfl (by (with_reducible repeat (first | refine blk_drewN ?_ _ | refine blk_drew ?_ | refine blk_alloc ?_ _)); refine blk_put (cs := #[.int .u8 a1, .int .i64 (wrap64 (a0_1)), .string (⟨#[]⟩ : ByteArray)]) ?_ 2 _ rfl; (with_reducible repeat (first | refine blk_drewN ?_ _ | refine blk_drew ?_ | refine blk_alloc ?_ _)); refine blk_put (cs := #[.int .u8 a1, .int .i64 0, .string (⟨#[]⟩ : ByteArray)]) ?_ 1 _ rfl; (with_reducible repeat (first | refine blk_drewN ?_ _ | refine blk_drew ?_ | refine blk_alloc ?_ _)); refine blk_put (cs := #[.int .u8 0, .int .i64 0, .string (⟨#[]⟩ : ByteArray)]) ?_ 0 _ rfl; (with_reducible repeat (first | refine blk_drewN ?_ _ | refine blk_drew ?_ | refine blk_alloc ?_ _)); exact BK162.out) Tryd.underlying25 rfl (by kernel_rfl)) rfl ?_
    exact ⟨by first | rfl | (simp [errW_none, errW_some] <;> rfl) | (simp [*, errW_none, errW_some] <;> rfl), by repeat (first | (with_reducible first | exact HB.out | apply below_alloc | apply pw_below_drewN | apply below_drew1 | refine below_set ?_ GE161.out | refine below_set ?_ GE162.out) | exact HB.out)⟩
  · rw [if_neg c3] at H
    have c3b0 : (a0_0 == ((wrap64 (a0_1)) / 9223372036854775808)) = false := beq_eq_false_iff_ne.mpr c3
    have c3b1 : (a0_0 != ((wrap64 (a0_1)) / 9223372036854775808)) = true := bne_iff_ne.mpr c3
    simp only [Option.some.injEq, Prod.mk.injEq] at H
    obtain ⟨rfl, rfl, rfl, rfl⟩ := H
    go_enter Tryd.func60, Tryd.ntmps60
    go_wp2_with (first | ((with_reducible refine gate_dst (N := 2) rfl ?_); refine box_event ?hg (N := 2) ?hd (cs := #[.int .i64 a0_0, .int .u64 a0_1]) (t := 49) ?hr ?_; (case hd => rfl); (case hg => rfl); (case hr => first | (go_simp; done) | (go_simp; rfl)); intro gb161 hg w9 hbox hb; have n0_ := Aside0.mk (below_step (by repeat (first | (with_reducible first | exact HB.out | apply below_alloc | apply pw_below_drewN | apply below_drew1) | exact HB.out)) hb); have n1_ := Aside0.mk (hbox); have n2_ := Aside0.mk ((by rw [hg]; exact (below_size (by repeat (first | (with_reducible first | exact HB.out | apply below_alloc | apply pw_below_drewN | apply below_drew1) | exact HB.out))) : w.heap.size ≤ gb161)); have n3_ := Aside0.mk ((by rw [hg]; exact (below_size (by repeat (first | (with_reducible first | exact HB.out | apply below_alloc | apply pw_below_drewN | apply below_drew1) | exact HB.out))) : w.heap.size ≤ gb161)); clear HB; have HB := n0_; have BK161 := n1_; have GW161 := n2_; have GE161 := n3_; clear n0_ n1_ n2_ n3_; clear hb hbox hg) | ((with_reducible refine gate_dst (N := 4) rfl ?_); refine box_event ?hg (N := 4) ?hd (cs := #[.int .u8 0, .int .i64 0, .string (⟨#[]⟩ : ByteArray)]) (t := 25) ?hr ?_; (case hd => rfl); (case hg => rfl); (case hr => first | (go_simp; done) | (go_simp; rfl)); intro gb162 hg w10 hbox hb; have n0_ := Aside0.mk (blk_below (g := gb161) (o := .cells #[.int .i64 a0_0, .int .u64 a0_1] 49 (0, 0)) (by (with_reducible repeat (first | refine blk_drewN ?_ _ | refine blk_drew ?_ | refine blk_alloc ?_ _)); exact BK161.out) hb); have n1_ := Aside0.mk (below_step (by repeat (first | (with_reducible first | exact HB.out | apply below_alloc | apply pw_below_drewN | apply below_drew1 | refine below_set ?_ GE161.out) | exact HB.out)) hb); have n2_ := Aside0.mk (hbox); have n3_ := Aside0.mk ((by rw [hg]; exact (below_size (by repeat (first | (with_reducible first | exact HB.out | apply below_alloc | apply pw_below_drewN | apply below_drew1 | refine below_set ?_ GE161.out) | exact HB.out))) : w.heap.size ≤ gb162)); have n4_ := Aside0.mk ((by rw [hg]; exact (below_size (by repeat (first | (with_reducible first | exact HB.out | apply below_alloc | apply pw_below_drewN | apply below_drew1 | refine below_set ?_ GE161.out) | exact HB.out))) : w.heap.size ≤ gb162)); have n5_ := Aside0.mk ((by rw [hg]; exact Nat.ne_of_lt (blk_lt (g := gb161) (o := .cells #[.int .i64 a0_0, .int .u64 a0_1] 49 (0, 0)) (by (with_reducible repeat (first | refine blk_drewN ?_ _ | refine blk_drew ?_ | refine blk_alloc ?_ _)); exact BK161.out)) : gb161 ≠ gb162)); have n6_ := Aside0.mk ((by rw [hg]; exact Nat.ne_of_gt (blk_lt (g := gb161) (o := .cells #[.int .i64 a0_0, .int .u64 a0_1] 49 (0, 0)) (by (with_reducible repeat (first | refine blk_drewN ?_ _ | refine blk_drew ?_ | refine blk_alloc ?_ _)); exact BK161.out)) : gb162 ≠ gb161)); clear BK161; clear HB; have BK161 := n0_; have HB := n1_; have BK162 := n2_; have GW162 := n3_; have GE162 := n4_; have NB161_162 := n5_; have NB162_161 := n6_; clear n0_ n1_ n2_ n3_ n4_ n5_ n6_; clear hb hbox hg; have hnb11 := NB161_162.out; have hnc11 := NB162_161.out; have hcz12_0 : w10.cell? ⟨gb161, 0, none⟩ = some (.int .i64 a0_0) := (blk_cell BK161.out 0).trans rfl; have hcz12_1 : w10.cell? ⟨gb161, 1, none⟩ = some (.int .u64 a0_1) := (blk_cell BK161.out 1).trans rfl; have hfz12_0 := blk_frozen BK161.out 0; have hfz12_1 := blk_frozen BK161.out 1; have hcz13_0 : w10.cell? ⟨gb162, 0, none⟩ = some (.int .u8 0) := (blk_cell BK162.out 0).trans rfl; have hcz13_1 : w10.cell? ⟨gb162, 1, none⟩ = some (.int .i64 0) := (blk_cell BK162.out 1).trans rfl; have hcz13_2 : w10.cell? ⟨gb162, 2, none⟩ = some (.string (⟨#[]⟩ : ByteArray)) := (blk_cell BK162.out 2).trans rfl; have hfz13_0 := blk_frozen BK162.out 0; have hfz13_1 := blk_frozen BK162.out 1; have hfz13_2 := blk_frozen BK162.out 2))
    refine bodyPost_ret (results_ct rfl _ _ gb162 25 #[.int .u8 0, .int .i64 0, .string (⟨#[]⟩ : ByteArray)] (0, 0) _ rfl (by (with_reducible repeat (first | refine blk_drewN ?_ _ | refine blk_drew ?_ | refine blk_alloc ?_ _)); refine blk_put (cs := #[.int .u8 0, .int .i64 0, .string (⟨#[]⟩ : ByteArray)]) ?_ 2 _ rfl; (with_reducible repeat (first | refine blk_drewN ?_ _ | refine blk_drew ?_ | refine blk_alloc ?_ _)); refine blk_put (cs := #[.int .u8 0, .int .i64 0, .string (⟨#[]⟩ : ByteArray)]) ?_ 1 _ rfl; (with_reducible repeat (first | refine blk_drewN ?_ _ | refine blk_drew ?_ | refine blk_alloc ?_ _)); refine blk_put (cs := #[.int .u8 0, .int .i64 0, .string (⟨#[]⟩ : ByteArray)]) ?_ 0 _ rfl; (with_reducible repeat (first | refine blk_drewN ?_ _ | refine blk_drew ?_ | refine blk_alloc ?_ _)); exact BK162.out) Tryd.underlying25 rfl (by kernel_rfl)) rfl ?_
    exact ⟨by first | rfl | (simp [errW_none, errW_some] <;> rfl) | (simp [*, errW_none, errW_some] <;> rfl), by repeat (first | (with_reducible first | exact HB.out | apply below_alloc | apply pw_below_drewN | apply below_drew1 | refine below_set ?_ GE161.out | refine below_set ?_ GE162.out) | exact HB.out)⟩

end Go.Proofs.YtbodlnoipkommaaDoor.Q
namespace Go.Proofs.YtbodlnoipkommaaDoor.Wn
open Go.RowKit Go.Proofs.YtbodlnoipkommaaDoor.Q Go.Proofs.YtbodlnoipkommaaDoor.We Go.Proofs.YtbodlnoipkommaaDoor.Wh Go.Proofs.YtbodlnoipkommaaDoor.Wi Go.Proofs.YtbodlnoipkommaaDoor.Wj Go.Proofs.YtbodlnoipkommaaDoor.Wm Go.Proofs.YtbodlnoipkommaaDoorW.PrintWords Go.Proofs.YtbodlnoipkommaaDoorW.PrintLast Go.Proofs.YtbodlnoipkommaaDoorW.PrintMore
theorem bcells {W w1 : World} (hb : Below W.heap.size W w1) (b : Nat) (h : b < W.heap.size) : (∀ o, w1.cell? ⟨b, o, none⟩ = W.cell? ⟨b, o, none⟩) ∧ (∀ o, w1.frozen? ⟨b, o, none⟩ = W.frozen? ⟨b, o, none⟩) ∧ b < w1.heap.size :=
  ⟨fun o => hb.cell (p := ⟨b, o, none⟩) h, fun o => hb.frozen (p := ⟨b, o, none⟩) h, Nat.lt_of_lt_of_le h hb.size⟩
set_option maxRecDepth 100000 in
set_option maxHeartbeats 4000000 in
theorem sum_57_w2 (k0 k1 n0 n1 : Int) (s0 s1 : ByteArray) (w : World) (ha : value_asked.f k0 n0 s0 k1 n1 s1 = some (false, 2)) :
    Calls Tryd.prog 55 #[.agg #[.int .u8 k0, .int .i64 n0, .string s0], .agg #[.int .u8 k1, .int .i64 n1, .string s1], .func (.func 57) #[] #[]] w fun e w' => e = .returned (.tuple #[.agg #[.int .u8 0, .int .i64 0, .string ⟨#[]⟩], .int .i64 2]) ∧ Below w.heap.size w w' := by
  have N := Aside0.mk (value_asked.calls k0 n0 s0 k1 n1 s1 _ _ · ha)
  clear ha
  go_enter Tryd.func55, Tryd.ntmps55
  go_wp2_with fail
  refine (N.out _).mono ?_
  rintro e w1 ⟨rfl, hb1⟩
  obtain ⟨c10, f10, l10⟩ := bcells hb1 (w.heap.size) (by first | assumption | (simp; done) | (simp; omega) | omega)
  obtain ⟨c11, f11, l11⟩ := bcells hb1 (w.heap.size + 1) (by first | assumption | (simp; done) | (simp; omega) | omega)
  obtain ⟨c12, f12, l12⟩ := bcells hb1 (w.heap.size + 2) (by first | assumption | (simp; done) | (simp; omega) | omega)
  obtain ⟨c13, f13, l13⟩ := bcells hb1 (w.heap.size + 3) (by first | assumption | (simp; done) | (simp; omega) | omega)
  replace hb1 := Aside0.mk hb1
  go_wp2_with fail
  simp [bodyPost, results, Tryd.results55, go_sem, c13, f13]
  exact set_ok (set_ok (set_ok (below_step (below_alloc (below_alloc (below_alloc (below_alloc (Below.refl _ _) _) _) _) _) hb1.out) (by omega) _) (by omega) _) (by omega) _
set_option maxRecDepth 100000 in
set_option maxHeartbeats 4000000 in
theorem sum_57_w270 (k0 k1 n0 n1 : Int) (s0 s1 : ByteArray) (w : World) (ha : value_asked.f k0 n0 s0 k1 n1 s1 = some (false, 270)) :
    Calls Tryd.prog 55 #[.agg #[.int .u8 k0, .int .i64 n0, .string s0], .agg #[.int .u8 k1, .int .i64 n1, .string s1], .func (.func 57) #[] #[]] w fun e w' => e = .returned (.tuple #[.agg #[.int .u8 0, .int .i64 0, .string ⟨#[]⟩], .int .i64 270]) ∧ Below w.heap.size w w' := by
  have N := Aside0.mk (value_asked.calls k0 n0 s0 k1 n1 s1 _ _ · ha)
  clear ha
  go_enter Tryd.func55, Tryd.ntmps55
  go_wp2_with fail
  refine (N.out _).mono ?_
  rintro e w1 ⟨rfl, hb1⟩
  obtain ⟨c10, f10, l10⟩ := bcells hb1 (w.heap.size) (by first | assumption | (simp; done) | (simp; omega) | omega)
  obtain ⟨c11, f11, l11⟩ := bcells hb1 (w.heap.size + 1) (by first | assumption | (simp; done) | (simp; omega) | omega)
  obtain ⟨c12, f12, l12⟩ := bcells hb1 (w.heap.size + 2) (by first | assumption | (simp; done) | (simp; omega) | omega)
  obtain ⟨c13, f13, l13⟩ := bcells hb1 (w.heap.size + 3) (by first | assumption | (simp; done) | (simp; omega) | omega)
  replace hb1 := Aside0.mk hb1
  go_wp2_with fail
  simp [bodyPost, results, Tryd.results55, go_sem, c13, f13]
  exact set_ok (set_ok (set_ok (below_step (below_alloc (below_alloc (below_alloc (below_alloc (Below.refl _ _) _) _) _) _) hb1.out) (by omega) _) (by omega) _) (by omega) _
set_option maxRecDepth 100000 in
set_option maxHeartbeats 4000000 in
theorem sum_57_null (k0 k1 n0 n1 : Int) (s0 s1 : ByteArray) (w : World) (ha : value_asked.f k0 n0 s0 k1 n1 s1 = some (true, 0)) :
    Calls Tryd.prog 55 #[.agg #[.int .u8 k0, .int .i64 n0, .string s0], .agg #[.int .u8 k1, .int .i64 n1, .string s1], .func (.func 57) #[] #[]] w fun e w' => e = .returned (.tuple #[.agg #[.int .u8 0, .int .i64 0, .string ⟨#[]⟩], .int .i64 0]) ∧ Below w.heap.size w w' := by
  have N := Aside0.mk (value_asked.calls k0 n0 s0 k1 n1 s1 _ _ · ha)
  clear ha
  go_enter Tryd.func55, Tryd.ntmps55
  go_wp2_with fail
  refine (N.out _).mono ?_
  rintro e w1 ⟨rfl, hb1⟩
  obtain ⟨c10, f10, l10⟩ := bcells hb1 (w.heap.size) (by first | assumption | (simp; done) | (simp; omega) | omega)
  obtain ⟨c11, f11, l11⟩ := bcells hb1 (w.heap.size + 1) (by first | assumption | (simp; done) | (simp; omega) | omega)
  obtain ⟨c12, f12, l12⟩ := bcells hb1 (w.heap.size + 2) (by first | assumption | (simp; done) | (simp; omega) | omega)
  obtain ⟨c13, f13, l13⟩ := bcells hb1 (w.heap.size + 3) (by first | assumption | (simp; done) | (simp; omega) | omega)
  replace hb1 := Aside0.mk hb1
  go_wp2_with fail
  simp [bodyPost, results, Tryd.results55, go_sem, c13, f13]
  exact set_ok (set_ok (set_ok (below_step (below_alloc (below_alloc (below_alloc (below_alloc (Below.refl _ _) _) _) _) _) hb1.out) (by omega) _) (by omega) _) (by omega) _
set_option maxRecDepth 100000 in
set_option maxHeartbeats 4000000 in
theorem sum_57_ii (n0 n1 : Int) (s0 s1 : ByteArray) (x0 x1 y0 y1 r0 r1 m1 m2 : Int) (m3 : ByteArray) (m4 : Int) (w : World) (ha : value_asked.f 2 n0 s0 2 n1 s1 = some (false, 0))
    (hx : value_of.f n0 = some (x0, x1)) (hy : value_of.f n1 = some (y0, y1)) (hp : value_wide_plus.f x0 x1 y0 y1 = some (r0, r1)) (hm : value_wide_told.f r0 r1 2 = some (m1, m2, m3, m4)) :
    Calls Tryd.prog 55 #[.agg #[.int .u8 2, .int .i64 n0, .string s0], .agg #[.int .u8 2, .int .i64 n1, .string s1], .func (.func 57) #[] #[]] w fun e w' => e = .returned (.tuple #[.agg #[.int .u8 m1, .int .i64 m2, .string m3], .int .i64 m4]) ∧ Below w.heap.size w w' := by
  have N := Aside0.mk (value_asked.calls 2 n0 s0 2 n1 s1 _ _ · ha)
  have G := Aside0.mk (fun A T B W a0 a1 a2 b0 b1 b2 t0 => both_84_57 A T B 2 n0 s0 2 n1 s1 x0 x1 y0 y1 r0 r1 W a0 a1 a2 b0 b1 b2 t0 hx hy hp)
  have D := Aside0.mk (value_wide_told.calls r0 r1 2 m1 m2 m3 m4 · hm)
  clear hx hy hp hm
  clear ha
  go_enter Tryd.func55, Tryd.ntmps55
  go_wp2_with fail
  refine (N.out _).mono ?_
  rintro e w1 ⟨rfl, hb1⟩
  obtain ⟨c10, f10, l10⟩ := bcells hb1 (w.heap.size) (by first | assumption | (simp; done) | (simp; omega) | omega)
  obtain ⟨c11, f11, l11⟩ := bcells hb1 (w.heap.size + 1) (by first | assumption | (simp; done) | (simp; omega) | omega)
  obtain ⟨c12, f12, l12⟩ := bcells hb1 (w.heap.size + 2) (by first | assumption | (simp; done) | (simp; omega) | omega)
  obtain ⟨c13, f13, l13⟩ := bcells hb1 (w.heap.size + 3) (by first | assumption | (simp; done) | (simp; omega) | omega)
  replace hb1 := Aside0.mk hb1
  go_wp2_with fail
  refine (G.out _ _ _ _ (by go_simp) (by go_simp) (by go_simp) (by go_simp) (by go_simp) (by go_simp) (by go_simp)).mono ?_
  rintro e w2 ⟨rfl, hb2⟩
  obtain ⟨c20, f20, l20⟩ := bcells hb2 (w.heap.size) (by first | assumption | (simp; done) | (simp; omega) | omega)
  obtain ⟨c21, f21, l21⟩ := bcells hb2 (w.heap.size + 1) (by first | assumption | (simp; done) | (simp; omega) | omega)
  obtain ⟨c22, f22, l22⟩ := bcells hb2 (w.heap.size + 2) (by first | assumption | (simp; done) | (simp; omega) | omega)
  obtain ⟨c23, f23, l23⟩ := bcells hb2 (w.heap.size + 3) (by first | assumption | (simp; done) | (simp; omega) | omega)
  replace hb2 := Aside0.mk hb2
  go_wp2_with fail
  refine (D.out _).mono ?_
  rintro e w3 ⟨rfl, hb3⟩
  obtain ⟨c30, f30, l30⟩ := bcells hb3 (w.heap.size) (by first | assumption | (simp; done) | (simp; omega) | omega)
  obtain ⟨c31, f31, l31⟩ := bcells hb3 (w.heap.size + 1) (by first | assumption | (simp; done) | (simp; omega) | omega)
  obtain ⟨c32, f32, l32⟩ := bcells hb3 (w.heap.size + 2) (by first | assumption | (simp; done) | (simp; omega) | omega)
  obtain ⟨c33, f33, l33⟩ := bcells hb3 (w.heap.size + 3) (by first | assumption | (simp; done) | (simp; omega) | omega)
  replace hb3 := Aside0.mk hb3
  go_wp2_with fail
  simp [bodyPost, results, Tryd.results55, go_sem, c13, f13, c23, f23, c33, f33]
  exact set_ok (set_ok (set_ok (below_step (below_step (below_step (below_alloc (below_alloc (below_alloc (below_alloc (Below.refl _ _) _) _) _) _) hb1.out) hb2.out) hb3.out) (by omega) _) (by omega) _) (by omega) _
set_option maxRecDepth 100000 in
set_option maxHeartbeats 4000000 in
theorem sum_57_in (k1 n0 n1 : Int) (s0 s1 : ByteArray) (x0 x1 y0 y1 r0 r1 m1 m2 : Int) (m3 : ByteArray) (m4 : Int) (w : World) (ha : value_asked.f 2 n0 s0 k1 n1 s1 = some (false, 0)) (z1 : (k1 == 2) = false) (q1 : (k1 != 2) = true)
    (hx : value_fixed.f 2 n0 s0 = some (x0, x1)) (hy : value_fixed.f k1 n1 s1 = some (y0, y1)) (hp : value_wide_plus.f x0 x1 y0 y1 = some (r0, r1)) (hm : value_wide_told.f r0 r1 3 = some (m1, m2, m3, m4)) :
    Calls Tryd.prog 55 #[.agg #[.int .u8 2, .int .i64 n0, .string s0], .agg #[.int .u8 k1, .int .i64 n1, .string s1], .func (.func 57) #[] #[]] w fun e w' => e = .returned (.tuple #[.agg #[.int .u8 m1, .int .i64 m2, .string m3], .int .i64 m4]) ∧ Below w.heap.size w w' := by
  have N := Aside0.mk (value_asked.calls 2 n0 s0 k1 n1 s1 _ _ · ha)
  have G := Aside0.mk (fun A T B W a0 a1 a2 b0 b1 b2 t0 => both_39_57 A T B 2 n0 s0 k1 n1 s1 x0 x1 y0 y1 r0 r1 W a0 a1 a2 b0 b1 b2 t0 hx hy hp)
  have D := Aside0.mk (value_wide_told.calls r0 r1 3 m1 m2 m3 m4 · hm)
  clear hx hy hp hm
  clear ha
  go_enter Tryd.func55, Tryd.ntmps55
  go_wp2_with fail
  refine (N.out _).mono ?_
  rintro e w1 ⟨rfl, hb1⟩
  obtain ⟨c10, f10, l10⟩ := bcells hb1 (w.heap.size) (by first | assumption | (simp; done) | (simp; omega) | omega)
  obtain ⟨c11, f11, l11⟩ := bcells hb1 (w.heap.size + 1) (by first | assumption | (simp; done) | (simp; omega) | omega)
  obtain ⟨c12, f12, l12⟩ := bcells hb1 (w.heap.size + 2) (by first | assumption | (simp; done) | (simp; omega) | omega)
  obtain ⟨c13, f13, l13⟩ := bcells hb1 (w.heap.size + 3) (by first | assumption | (simp; done) | (simp; omega) | omega)
  replace hb1 := Aside0.mk hb1
  go_wp2_with fail
  refine (G.out _ _ _ _ (by go_simp) (by go_simp) (by go_simp) (by go_simp) (by go_simp) (by go_simp) (by go_simp)).mono ?_
  rintro e w2 ⟨rfl, hb2⟩
  obtain ⟨c20, f20, l20⟩ := bcells hb2 (w.heap.size) (by first | assumption | (simp; done) | (simp; omega) | omega)
  obtain ⟨c21, f21, l21⟩ := bcells hb2 (w.heap.size + 1) (by first | assumption | (simp; done) | (simp; omega) | omega)
  obtain ⟨c22, f22, l22⟩ := bcells hb2 (w.heap.size + 2) (by first | assumption | (simp; done) | (simp; omega) | omega)
  obtain ⟨c23, f23, l23⟩ := bcells hb2 (w.heap.size + 3) (by first | assumption | (simp; done) | (simp; omega) | omega)
  replace hb2 := Aside0.mk hb2
  go_wp2_with fail
  refine (D.out _).mono ?_
  rintro e w3 ⟨rfl, hb3⟩
  obtain ⟨c30, f30, l30⟩ := bcells hb3 (w.heap.size) (by first | assumption | (simp; done) | (simp; omega) | omega)
  obtain ⟨c31, f31, l31⟩ := bcells hb3 (w.heap.size + 1) (by first | assumption | (simp; done) | (simp; omega) | omega)
  obtain ⟨c32, f32, l32⟩ := bcells hb3 (w.heap.size + 2) (by first | assumption | (simp; done) | (simp; omega) | omega)
  obtain ⟨c33, f33, l33⟩ := bcells hb3 (w.heap.size + 3) (by first | assumption | (simp; done) | (simp; omega) | omega)
  replace hb3 := Aside0.mk hb3
  go_wp2_with fail
  simp [bodyPost, results, Tryd.results55, go_sem, c13, f13, c23, f23, c33, f33]
  exact set_ok (set_ok (set_ok (below_step (below_step (below_step (below_alloc (below_alloc (below_alloc (below_alloc (Below.refl _ _) _) _) _) _) hb1.out) hb2.out) hb3.out) (by omega) _) (by omega) _) (by omega) _
set_option maxRecDepth 100000 in
set_option maxHeartbeats 4000000 in
theorem sum_57_n (k0 k1 n0 n1 : Int) (s0 s1 : ByteArray) (x0 x1 y0 y1 r0 r1 m1 m2 : Int) (m3 : ByteArray) (m4 : Int) (w : World) (ha : value_asked.f k0 n0 s0 k1 n1 s1 = some (false, 0)) (z0 : (k0 == 2) = false) (y0' : (k0 != 2) = true)
    (hx : value_fixed.f k0 n0 s0 = some (x0, x1)) (hy : value_fixed.f k1 n1 s1 = some (y0, y1)) (hp : value_wide_plus.f x0 x1 y0 y1 = some (r0, r1)) (hm : value_wide_told.f r0 r1 3 = some (m1, m2, m3, m4)) :
    Calls Tryd.prog 55 #[.agg #[.int .u8 k0, .int .i64 n0, .string s0], .agg #[.int .u8 k1, .int .i64 n1, .string s1], .func (.func 57) #[] #[]] w fun e w' => e = .returned (.tuple #[.agg #[.int .u8 m1, .int .i64 m2, .string m3], .int .i64 m4]) ∧ Below w.heap.size w w' := by
  have N := Aside0.mk (value_asked.calls k0 n0 s0 k1 n1 s1 _ _ · ha)
  have G := Aside0.mk (fun A T B W a0 a1 a2 b0 b1 b2 t0 => both_39_57 A T B k0 n0 s0 k1 n1 s1 x0 x1 y0 y1 r0 r1 W a0 a1 a2 b0 b1 b2 t0 hx hy hp)
  have D := Aside0.mk (value_wide_told.calls r0 r1 3 m1 m2 m3 m4 · hm)
  clear hx hy hp hm
  clear ha
  go_enter Tryd.func55, Tryd.ntmps55
  go_wp2_with fail
  refine (N.out _).mono ?_
  rintro e w1 ⟨rfl, hb1⟩
  obtain ⟨c10, f10, l10⟩ := bcells hb1 (w.heap.size) (by first | assumption | (simp; done) | (simp; omega) | omega)
  obtain ⟨c11, f11, l11⟩ := bcells hb1 (w.heap.size + 1) (by first | assumption | (simp; done) | (simp; omega) | omega)
  obtain ⟨c12, f12, l12⟩ := bcells hb1 (w.heap.size + 2) (by first | assumption | (simp; done) | (simp; omega) | omega)
  obtain ⟨c13, f13, l13⟩ := bcells hb1 (w.heap.size + 3) (by first | assumption | (simp; done) | (simp; omega) | omega)
  replace hb1 := Aside0.mk hb1
  go_wp2_with fail
  refine (G.out _ _ _ _ (by go_simp) (by go_simp) (by go_simp) (by go_simp) (by go_simp) (by go_simp) (by go_simp)).mono ?_
  rintro e w2 ⟨rfl, hb2⟩
  obtain ⟨c20, f20, l20⟩ := bcells hb2 (w.heap.size) (by first | assumption | (simp; done) | (simp; omega) | omega)
  obtain ⟨c21, f21, l21⟩ := bcells hb2 (w.heap.size + 1) (by first | assumption | (simp; done) | (simp; omega) | omega)
  obtain ⟨c22, f22, l22⟩ := bcells hb2 (w.heap.size + 2) (by first | assumption | (simp; done) | (simp; omega) | omega)
  obtain ⟨c23, f23, l23⟩ := bcells hb2 (w.heap.size + 3) (by first | assumption | (simp; done) | (simp; omega) | omega)
  replace hb2 := Aside0.mk hb2
  go_wp2_with fail
  refine (D.out _).mono ?_
  rintro e w3 ⟨rfl, hb3⟩
  obtain ⟨c30, f30, l30⟩ := bcells hb3 (w.heap.size) (by first | assumption | (simp; done) | (simp; omega) | omega)
  obtain ⟨c31, f31, l31⟩ := bcells hb3 (w.heap.size + 1) (by first | assumption | (simp; done) | (simp; omega) | omega)
  obtain ⟨c32, f32, l32⟩ := bcells hb3 (w.heap.size + 2) (by first | assumption | (simp; done) | (simp; omega) | omega)
  obtain ⟨c33, f33, l33⟩ := bcells hb3 (w.heap.size + 3) (by first | assumption | (simp; done) | (simp; omega) | omega)
  replace hb3 := Aside0.mk hb3
  go_wp2_with fail
  simp [bodyPost, results, Tryd.results55, go_sem, c13, f13, c23, f23, c33, f33]
  exact set_ok (set_ok (set_ok (below_step (below_step (below_step (below_alloc (below_alloc (below_alloc (below_alloc (Below.refl _ _) _) _) _) _) hb1.out) hb2.out) hb3.out) (by omega) _) (by omega) _) (by omega) _
set_option maxRecDepth 100000 in
set_option maxHeartbeats 4000000 in
theorem sum_41_w2 (k0 k1 n0 n1 : Int) (s0 s1 : ByteArray) (w : World) (ha : value_asked.f k0 n0 s0 k1 n1 s1 = some (false, 2)) :
    Calls Tryd.prog 55 #[.agg #[.int .u8 k0, .int .i64 n0, .string s0], .agg #[.int .u8 k1, .int .i64 n1, .string s1], .func (.func 41) #[] #[]] w fun e w' => e = .returned (.tuple #[.agg #[.int .u8 0, .int .i64 0, .string ⟨#[]⟩], .int .i64 2]) ∧ Below w.heap.size w w' := by
  have N := Aside0.mk (value_asked.calls k0 n0 s0 k1 n1 s1 _ _ · ha)
  clear ha
  go_enter Tryd.func55, Tryd.ntmps55
  go_wp2_with fail
  refine (N.out _).mono ?_
  rintro e w1 ⟨rfl, hb1⟩
  obtain ⟨c10, f10, l10⟩ := bcells hb1 (w.heap.size) (by first | assumption | (simp; done) | (simp; omega) | omega)
  obtain ⟨c11, f11, l11⟩ := bcells hb1 (w.heap.size + 1) (by first | assumption | (simp; done) | (simp; omega) | omega)
  obtain ⟨c12, f12, l12⟩ := bcells hb1 (w.heap.size + 2) (by first | assumption | (simp; done) | (simp; omega) | omega)
  obtain ⟨c13, f13, l13⟩ := bcells hb1 (w.heap.size + 3) (by first | assumption | (simp; done) | (simp; omega) | omega)
  replace hb1 := Aside0.mk hb1
  go_wp2_with fail
  simp [bodyPost, results, Tryd.results55, go_sem, c13, f13]
  exact set_ok (set_ok (set_ok (below_step (below_alloc (below_alloc (below_alloc (below_alloc (Below.refl _ _) _) _) _) _) hb1.out) (by omega) _) (by omega) _) (by omega) _
set_option maxRecDepth 100000 in
set_option maxHeartbeats 4000000 in
theorem sum_41_w270 (k0 k1 n0 n1 : Int) (s0 s1 : ByteArray) (w : World) (ha : value_asked.f k0 n0 s0 k1 n1 s1 = some (false, 270)) :
    Calls Tryd.prog 55 #[.agg #[.int .u8 k0, .int .i64 n0, .string s0], .agg #[.int .u8 k1, .int .i64 n1, .string s1], .func (.func 41) #[] #[]] w fun e w' => e = .returned (.tuple #[.agg #[.int .u8 0, .int .i64 0, .string ⟨#[]⟩], .int .i64 270]) ∧ Below w.heap.size w w' := by
  have N := Aside0.mk (value_asked.calls k0 n0 s0 k1 n1 s1 _ _ · ha)
  clear ha
  go_enter Tryd.func55, Tryd.ntmps55
  go_wp2_with fail
  refine (N.out _).mono ?_
  rintro e w1 ⟨rfl, hb1⟩
  obtain ⟨c10, f10, l10⟩ := bcells hb1 (w.heap.size) (by first | assumption | (simp; done) | (simp; omega) | omega)
  obtain ⟨c11, f11, l11⟩ := bcells hb1 (w.heap.size + 1) (by first | assumption | (simp; done) | (simp; omega) | omega)
  obtain ⟨c12, f12, l12⟩ := bcells hb1 (w.heap.size + 2) (by first | assumption | (simp; done) | (simp; omega) | omega)
  obtain ⟨c13, f13, l13⟩ := bcells hb1 (w.heap.size + 3) (by first | assumption | (simp; done) | (simp; omega) | omega)
  replace hb1 := Aside0.mk hb1
  go_wp2_with fail
  simp [bodyPost, results, Tryd.results55, go_sem, c13, f13]
  exact set_ok (set_ok (set_ok (below_step (below_alloc (below_alloc (below_alloc (below_alloc (Below.refl _ _) _) _) _) _) hb1.out) (by omega) _) (by omega) _) (by omega) _
set_option maxRecDepth 100000 in
set_option maxHeartbeats 4000000 in
theorem sum_41_null (k0 k1 n0 n1 : Int) (s0 s1 : ByteArray) (w : World) (ha : value_asked.f k0 n0 s0 k1 n1 s1 = some (true, 0)) :
    Calls Tryd.prog 55 #[.agg #[.int .u8 k0, .int .i64 n0, .string s0], .agg #[.int .u8 k1, .int .i64 n1, .string s1], .func (.func 41) #[] #[]] w fun e w' => e = .returned (.tuple #[.agg #[.int .u8 0, .int .i64 0, .string ⟨#[]⟩], .int .i64 0]) ∧ Below w.heap.size w w' := by
  have N := Aside0.mk (value_asked.calls k0 n0 s0 k1 n1 s1 _ _ · ha)
  clear ha
  go_enter Tryd.func55, Tryd.ntmps55
  go_wp2_with fail
  refine (N.out _).mono ?_
  rintro e w1 ⟨rfl, hb1⟩
  obtain ⟨c10, f10, l10⟩ := bcells hb1 (w.heap.size) (by first | assumption | (simp; done) | (simp; omega) | omega)
  obtain ⟨c11, f11, l11⟩ := bcells hb1 (w.heap.size + 1) (by first | assumption | (simp; done) | (simp; omega) | omega)
  obtain ⟨c12, f12, l12⟩ := bcells hb1 (w.heap.size + 2) (by first | assumption | (simp; done) | (simp; omega) | omega)
  obtain ⟨c13, f13, l13⟩ := bcells hb1 (w.heap.size + 3) (by first | assumption | (simp; done) | (simp; omega) | omega)
  replace hb1 := Aside0.mk hb1
  go_wp2_with fail
  simp [bodyPost, results, Tryd.results55, go_sem, c13, f13]
  exact set_ok (set_ok (set_ok (below_step (below_alloc (below_alloc (below_alloc (below_alloc (Below.refl _ _) _) _) _) _) hb1.out) (by omega) _) (by omega) _) (by omega) _
set_option maxRecDepth 100000 in
set_option maxHeartbeats 4000000 in
theorem sum_41_ii (n0 n1 : Int) (s0 s1 : ByteArray) (x0 x1 y0 y1 v0 v1 r0 r1 m1 m2 : Int) (m3 : ByteArray) (m4 : Int) (w : World) (ha : value_asked.f 2 n0 s0 2 n1 s1 = some (false, 0))
    (hx : value_of.f n0 = some (x0, x1)) (hy : value_of.f n1 = some (y0, y1)) (ht : value_wide_minus.f y0 y1 = some (v0, v1)) (hp : value_wide_plus.f x0 x1 v0 v1 = some (r0, r1)) (hm : value_wide_told.f r0 r1 2 = some (m1, m2, m3, m4)) :
    Calls Tryd.prog 55 #[.agg #[.int .u8 2, .int .i64 n0, .string s0], .agg #[.int .u8 2, .int .i64 n1, .string s1], .func (.func 41) #[] #[]] w fun e w' => e = .returned (.tuple #[.agg #[.int .u8 m1, .int .i64 m2, .string m3], .int .i64 m4]) ∧ Below w.heap.size w w' := by
  have N := Aside0.mk (value_asked.calls 2 n0 s0 2 n1 s1 _ _ · ha)
  have G := Aside0.mk (fun A T B W a0 a1 a2 b0 b1 b2 t0 => both_84_41 A T B 2 n0 s0 2 n1 s1 x0 x1 y0 y1 v0 v1 r0 r1 W a0 a1 a2 b0 b1 b2 t0 hx hy ht hp)
  have D := Aside0.mk (value_wide_told.calls r0 r1 2 m1 m2 m3 m4 · hm)
  clear hx hy ht hp hm
  clear ha
  go_enter Tryd.func55, Tryd.ntmps55
  go_wp2_with fail
  refine (N.out _).mono ?_
  rintro e w1 ⟨rfl, hb1⟩
  obtain ⟨c10, f10, l10⟩ := bcells hb1 (w.heap.size) (by first | assumption | (simp; done) | (simp; omega) | omega)
  obtain ⟨c11, f11, l11⟩ := bcells hb1 (w.heap.size + 1) (by first | assumption | (simp; done) | (simp; omega) | omega)
  obtain ⟨c12, f12, l12⟩ := bcells hb1 (w.heap.size + 2) (by first | assumption | (simp; done) | (simp; omega) | omega)
  obtain ⟨c13, f13, l13⟩ := bcells hb1 (w.heap.size + 3) (by first | assumption | (simp; done) | (simp; omega) | omega)
  replace hb1 := Aside0.mk hb1
  go_wp2_with fail
  refine (G.out _ _ _ _ (by go_simp) (by go_simp) (by go_simp) (by go_simp) (by go_simp) (by go_simp) (by go_simp)).mono ?_
  rintro e w2 ⟨rfl, hb2⟩
  obtain ⟨c20, f20, l20⟩ := bcells hb2 (w.heap.size) (by first | assumption | (simp; done) | (simp; omega) | omega)
  obtain ⟨c21, f21, l21⟩ := bcells hb2 (w.heap.size + 1) (by first | assumption | (simp; done) | (simp; omega) | omega)
  obtain ⟨c22, f22, l22⟩ := bcells hb2 (w.heap.size + 2) (by first | assumption | (simp; done) | (simp; omega) | omega)
  obtain ⟨c23, f23, l23⟩ := bcells hb2 (w.heap.size + 3) (by first | assumption | (simp; done) | (simp; omega) | omega)
  replace hb2 := Aside0.mk hb2
  go_wp2_with fail
  refine (D.out _).mono ?_
  rintro e w3 ⟨rfl, hb3⟩
  obtain ⟨c30, f30, l30⟩ := bcells hb3 (w.heap.size) (by first | assumption | (simp; done) | (simp; omega) | omega)
  obtain ⟨c31, f31, l31⟩ := bcells hb3 (w.heap.size + 1) (by first | assumption | (simp; done) | (simp; omega) | omega)
  obtain ⟨c32, f32, l32⟩ := bcells hb3 (w.heap.size + 2) (by first | assumption | (simp; done) | (simp; omega) | omega)
  obtain ⟨c33, f33, l33⟩ := bcells hb3 (w.heap.size + 3) (by first | assumption | (simp; done) | (simp; omega) | omega)
  replace hb3 := Aside0.mk hb3
  go_wp2_with fail
  simp [bodyPost, results, Tryd.results55, go_sem, c13, f13, c23, f23, c33, f33]
  exact set_ok (set_ok (set_ok (below_step (below_step (below_step (below_alloc (below_alloc (below_alloc (below_alloc (Below.refl _ _) _) _) _) _) hb1.out) hb2.out) hb3.out) (by omega) _) (by omega) _) (by omega) _
set_option maxRecDepth 100000 in
set_option maxHeartbeats 4000000 in
theorem sum_41_in (k1 n0 n1 : Int) (s0 s1 : ByteArray) (x0 x1 y0 y1 v0 v1 r0 r1 m1 m2 : Int) (m3 : ByteArray) (m4 : Int) (w : World) (ha : value_asked.f 2 n0 s0 k1 n1 s1 = some (false, 0)) (z1 : (k1 == 2) = false) (q1 : (k1 != 2) = true)
    (hx : value_fixed.f 2 n0 s0 = some (x0, x1)) (hy : value_fixed.f k1 n1 s1 = some (y0, y1)) (ht : value_wide_minus.f y0 y1 = some (v0, v1)) (hp : value_wide_plus.f x0 x1 v0 v1 = some (r0, r1)) (hm : value_wide_told.f r0 r1 3 = some (m1, m2, m3, m4)) :
    Calls Tryd.prog 55 #[.agg #[.int .u8 2, .int .i64 n0, .string s0], .agg #[.int .u8 k1, .int .i64 n1, .string s1], .func (.func 41) #[] #[]] w fun e w' => e = .returned (.tuple #[.agg #[.int .u8 m1, .int .i64 m2, .string m3], .int .i64 m4]) ∧ Below w.heap.size w w' := by
  have N := Aside0.mk (value_asked.calls 2 n0 s0 k1 n1 s1 _ _ · ha)
  have G := Aside0.mk (fun A T B W a0 a1 a2 b0 b1 b2 t0 => both_39_41 A T B 2 n0 s0 k1 n1 s1 x0 x1 y0 y1 v0 v1 r0 r1 W a0 a1 a2 b0 b1 b2 t0 hx hy ht hp)
  have D := Aside0.mk (value_wide_told.calls r0 r1 3 m1 m2 m3 m4 · hm)
  clear hx hy ht hp hm
  clear ha
  go_enter Tryd.func55, Tryd.ntmps55
  go_wp2_with fail
  refine (N.out _).mono ?_
  rintro e w1 ⟨rfl, hb1⟩
  obtain ⟨c10, f10, l10⟩ := bcells hb1 (w.heap.size) (by first | assumption | (simp; done) | (simp; omega) | omega)
  obtain ⟨c11, f11, l11⟩ := bcells hb1 (w.heap.size + 1) (by first | assumption | (simp; done) | (simp; omega) | omega)
  obtain ⟨c12, f12, l12⟩ := bcells hb1 (w.heap.size + 2) (by first | assumption | (simp; done) | (simp; omega) | omega)
  obtain ⟨c13, f13, l13⟩ := bcells hb1 (w.heap.size + 3) (by first | assumption | (simp; done) | (simp; omega) | omega)
  replace hb1 := Aside0.mk hb1
  go_wp2_with fail
  refine (G.out _ _ _ _ (by go_simp) (by go_simp) (by go_simp) (by go_simp) (by go_simp) (by go_simp) (by go_simp)).mono ?_
  rintro e w2 ⟨rfl, hb2⟩
  obtain ⟨c20, f20, l20⟩ := bcells hb2 (w.heap.size) (by first | assumption | (simp; done) | (simp; omega) | omega)
  obtain ⟨c21, f21, l21⟩ := bcells hb2 (w.heap.size + 1) (by first | assumption | (simp; done) | (simp; omega) | omega)
  obtain ⟨c22, f22, l22⟩ := bcells hb2 (w.heap.size + 2) (by first | assumption | (simp; done) | (simp; omega) | omega)
  obtain ⟨c23, f23, l23⟩ := bcells hb2 (w.heap.size + 3) (by first | assumption | (simp; done) | (simp; omega) | omega)
  replace hb2 := Aside0.mk hb2
  go_wp2_with fail
  refine (D.out _).mono ?_
  rintro e w3 ⟨rfl, hb3⟩
  obtain ⟨c30, f30, l30⟩ := bcells hb3 (w.heap.size) (by first | assumption | (simp; done) | (simp; omega) | omega)
  obtain ⟨c31, f31, l31⟩ := bcells hb3 (w.heap.size + 1) (by first | assumption | (simp; done) | (simp; omega) | omega)
  obtain ⟨c32, f32, l32⟩ := bcells hb3 (w.heap.size + 2) (by first | assumption | (simp; done) | (simp; omega) | omega)
  obtain ⟨c33, f33, l33⟩ := bcells hb3 (w.heap.size + 3) (by first | assumption | (simp; done) | (simp; omega) | omega)
  replace hb3 := Aside0.mk hb3
  go_wp2_with fail
  simp [bodyPost, results, Tryd.results55, go_sem, c13, f13, c23, f23, c33, f33]
  exact set_ok (set_ok (set_ok (below_step (below_step (below_step (below_alloc (below_alloc (below_alloc (below_alloc (Below.refl _ _) _) _) _) _) hb1.out) hb2.out) hb3.out) (by omega) _) (by omega) _) (by omega) _
set_option maxRecDepth 100000 in
set_option maxHeartbeats 4000000 in
theorem sum_41_n (k0 k1 n0 n1 : Int) (s0 s1 : ByteArray) (x0 x1 y0 y1 v0 v1 r0 r1 m1 m2 : Int) (m3 : ByteArray) (m4 : Int) (w : World) (ha : value_asked.f k0 n0 s0 k1 n1 s1 = some (false, 0)) (z0 : (k0 == 2) = false) (y0' : (k0 != 2) = true)
    (hx : value_fixed.f k0 n0 s0 = some (x0, x1)) (hy : value_fixed.f k1 n1 s1 = some (y0, y1)) (ht : value_wide_minus.f y0 y1 = some (v0, v1)) (hp : value_wide_plus.f x0 x1 v0 v1 = some (r0, r1)) (hm : value_wide_told.f r0 r1 3 = some (m1, m2, m3, m4)) :
    Calls Tryd.prog 55 #[.agg #[.int .u8 k0, .int .i64 n0, .string s0], .agg #[.int .u8 k1, .int .i64 n1, .string s1], .func (.func 41) #[] #[]] w fun e w' => e = .returned (.tuple #[.agg #[.int .u8 m1, .int .i64 m2, .string m3], .int .i64 m4]) ∧ Below w.heap.size w w' := by
  have N := Aside0.mk (value_asked.calls k0 n0 s0 k1 n1 s1 _ _ · ha)
  have G := Aside0.mk (fun A T B W a0 a1 a2 b0 b1 b2 t0 => both_39_41 A T B k0 n0 s0 k1 n1 s1 x0 x1 y0 y1 v0 v1 r0 r1 W a0 a1 a2 b0 b1 b2 t0 hx hy ht hp)
  have D := Aside0.mk (value_wide_told.calls r0 r1 3 m1 m2 m3 m4 · hm)
  clear hx hy ht hp hm
  clear ha
  go_enter Tryd.func55, Tryd.ntmps55
  go_wp2_with fail
  refine (N.out _).mono ?_
  rintro e w1 ⟨rfl, hb1⟩
  obtain ⟨c10, f10, l10⟩ := bcells hb1 (w.heap.size) (by first | assumption | (simp; done) | (simp; omega) | omega)
  obtain ⟨c11, f11, l11⟩ := bcells hb1 (w.heap.size + 1) (by first | assumption | (simp; done) | (simp; omega) | omega)
  obtain ⟨c12, f12, l12⟩ := bcells hb1 (w.heap.size + 2) (by first | assumption | (simp; done) | (simp; omega) | omega)
  obtain ⟨c13, f13, l13⟩ := bcells hb1 (w.heap.size + 3) (by first | assumption | (simp; done) | (simp; omega) | omega)
  replace hb1 := Aside0.mk hb1
  go_wp2_with fail
  refine (G.out _ _ _ _ (by go_simp) (by go_simp) (by go_simp) (by go_simp) (by go_simp) (by go_simp) (by go_simp)).mono ?_
  rintro e w2 ⟨rfl, hb2⟩
  obtain ⟨c20, f20, l20⟩ := bcells hb2 (w.heap.size) (by first | assumption | (simp; done) | (simp; omega) | omega)
  obtain ⟨c21, f21, l21⟩ := bcells hb2 (w.heap.size + 1) (by first | assumption | (simp; done) | (simp; omega) | omega)
  obtain ⟨c22, f22, l22⟩ := bcells hb2 (w.heap.size + 2) (by first | assumption | (simp; done) | (simp; omega) | omega)
  obtain ⟨c23, f23, l23⟩ := bcells hb2 (w.heap.size + 3) (by first | assumption | (simp; done) | (simp; omega) | omega)
  replace hb2 := Aside0.mk hb2
  go_wp2_with fail
  refine (D.out _).mono ?_
  rintro e w3 ⟨rfl, hb3⟩
  obtain ⟨c30, f30, l30⟩ := bcells hb3 (w.heap.size) (by first | assumption | (simp; done) | (simp; omega) | omega)
  obtain ⟨c31, f31, l31⟩ := bcells hb3 (w.heap.size + 1) (by first | assumption | (simp; done) | (simp; omega) | omega)
  obtain ⟨c32, f32, l32⟩ := bcells hb3 (w.heap.size + 2) (by first | assumption | (simp; done) | (simp; omega) | omega)
  obtain ⟨c33, f33, l33⟩ := bcells hb3 (w.heap.size + 3) (by first | assumption | (simp; done) | (simp; omega) | omega)
  replace hb3 := Aside0.mk hb3
  go_wp2_with fail
  simp [bodyPost, results, Tryd.results55, go_sem, c13, f13, c23, f23, c33, f33]
  exact set_ok (set_ok (set_ok (below_step (below_step (below_step (below_alloc (below_alloc (below_alloc (below_alloc (Below.refl _ _) _) _) _) _) hb1.out) hb2.out) hb3.out) (by omega) _) (by omega) _) (by omega) _
end Go.Proofs.YtbodlnoipkommaaDoor.Wn

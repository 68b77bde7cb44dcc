import Derived.Test.YtipgllkapphimaaQxf7
import Derived.Test.YtipgllkapphimaaQxf9
import Derived.Lib.SlBytesConst
import Derived.Outline
import Derived.Lib.Hide
namespace Go.Proofs.Ytipgllkapphimaa.B
open Go.RowKit Go.Proofs.Ytipgllkapphimaa.A Go.Proofs.Ytipgllkapphimaa.Q Go.Proofs.YtipgllkapphimaaW.PrintWords Go.Proofs.YtipgllkapphimaaW.PrintLast Go.Proofs.YtipgllkapphimaaW.PrintMore

theorem lit_C (w : World) (xs : List Int) (cs : Array Value) (f : Nat × Nat) (hcs : cs = (nums .u8 xs).toArray) (hl : xs.length ≤ 1000) : Kd.C (Kd.int .u8) (w.alloc (.cells cs 5 f)) (some ⟨w.heap.size, 0, none⟩) xs.length xs := by
  refine Kd.C_of_reads (d := (0 : Int)) (h1 := fun _ => rfl) ?_
  refine ⟨rfl, by omega, fun h => ⟨_, rfl, fun j hj => ?_⟩⟩
  rw [add_plain]
  subst hcs
  have hj' : j < xs.length := hj
  have hn : (w.alloc (.cells (nums .u8 xs).toArray 5 f)).heap[w.heap.size]? = some (.cells (nums .u8 xs).toArray 5 f) := heap_alloc_new _ _
  unfold World.cell?
  rw [hn]
  simp [nums, List.getElem?_eq_getElem hj', List.getD_eq_getElem?_getD]

theorem awake1 : sums_Crc.f [49, 50, 51, 52, 53, 54, 55, 56, 57] = some 3421780262 := by decide +kernel
theorem awake2 : sums_Fletcher.f 10 [97, 98, 99, 100, 101] = some 4031760169 := by decide +kernel

def chancerylaw02_awake.f : Option Bool := some true
set_option maxHeartbeats 1000000 in
theorem chancerylaw02_awake.calls (r : Bool) (w : World) (h : chancerylaw02_awake.f = some r) :
    Calls Try.prog 10 #[] w fun e w' => e = .returned (.bool r) ∧ Below w.heap.size w w' := by
  injection h with h
  subst h
  have kc := fun (w : World) (C : Array Value) (n c : Nat) => Lib.run_convert_bytes_const (P := Try.prog) w 25 5 C n c Try.underlying25 Try.underlying5
  have A1 := Aside0.mk awake1
  have A2 := Aside0.mk awake2
  go_enter Try.func10, Try.ntmps10
  go_wp2_with fail
  refine (sums_Crc.calls _ _ [49, 50, 51, 52, 53, 54, 55, 56, 57] _ _ (lit_C _ _ _ _ rfl (by decide)) (by decide) A1.out).mono ?_
  rintro e w1 ⟨rfl, hb1⟩
  replace hb1 := Aside0.mk hb1
  go_wp2_with fail
  refine (sums_Fletcher.calls 10 _ _ [97, 98, 99, 100, 101] _ _ (lit_C _ _ _ _ rfl (by decide)) (by decide) A2.out).mono ?_
  rintro e w2 ⟨rfl, hb2⟩
  replace hb2 := Aside0.mk hb2
  go_wp2_with fail
  go_ret
  refine ⟨rfl, ?_⟩
  have e1 := hb1.out
  have e2 := hb2.out.below
  exact below_then (below_step (below_alloc (Below.refl _ _) _) e1) (by have := e1.size; simp at this; omega) (below_step (below_alloc (Below.refl _ _) _) e2)
end Go.Proofs.Ytipgllkapphimaa.B

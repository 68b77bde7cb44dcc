/- The fixed examples of chapter 02 come out as written: the walk of the law SumsNumbers. No condition. -/
import Derived.Test.YtipgllkapphimaaB
namespace Go.Proofs.Ytipgllkapphimaa.N
open Go.RowKit Go.Proofs.Ytipgllkapphimaa.A Go.Proofs.Ytipgllkapphimaa.B Go.Proofs.Ytipgllkapphimaa.Q Go.Proofs.YtipgllkapphimaaW.PrintWords Go.Proofs.YtipgllkapphimaaW.PrintLast Go.Proofs.YtipgllkapphimaaW.PrintMore

theorem nil_C (w : World) : Kd.C (Kd.int .u8) w none (([] : List Int).length) [] :=
  Kd.C_of_reads (d := (0 : Int)) (h1 := fun _ => rfl) ⟨rfl, by decide, fun h => absurd h (by decide)⟩
theorem n1 : sums_Crc.f [] = some 0 := by decide +kernel
theorem n2 : sums_Crc.f [49, 50, 51, 52] = some 2615402659 := by decide +kernel
theorem n3 : sums_More.f 2615402659 [53, 54, 55, 56, 57] = some 3421780262 := by decide +kernel
theorem n4 : sums_Fletcher.f 10 [] = some 0 := by decide +kernel
theorem n5 : sums_Fletcher.f 10 [1] = some 65537 := by decide +kernel
theorem n6 : sums_Fletcher.f 10 [255, 255] = some 0 := by decide +kernel
theorem n7 : sums_Crc.f [0] = some 3523407757 := by decide +kernel
theorem grow {w a b : World} (h : Below w.heap.size w a) (k : Below a.heap.size a b) : Below w.heap.size w b := below_step h k
theorem growL {w a b : World} {o : Obj} (h : Below w.heap.size w a) (k : Below (a.alloc o).heap.size (a.alloc o) b) : Below w.heap.size w b := below_step (below_alloc h o) k

set_option maxHeartbeats 2000000 in
theorem walk (w : World) : Calls Try.prog 3 #[] w fun e w' => e = .returned (.bool true) ∧ Below w.heap.size w w' := by
  have kc := fun (w : World) (C : Array Value) (n c : Nat) => Lib.run_convert_bytes_const (P := Try.prog) w 25 5 C n c Try.underlying25 Try.underlying5
  have A1 := Aside0.mk n1
  have A2 := Aside0.mk n2
  have A3 := Aside0.mk n3
  have A4 := Aside0.mk n4
  have A5 := Aside0.mk n5
  have A6 := Aside0.mk n6
  have A7 := Aside0.mk n7
  have H0 := Aside0.mk (Below.refl w.heap.size w)
  go_enter Try.func3, Try.ntmps3
  go_wp2_with fail
  refine (sums_Crc.calls _ _ [] _ _ (nil_C _) (by decide) A1.out).mono ?_
  rintro e w1 ⟨rfl, hb⟩
  have H1 := Aside0.mk (grow H0.out hb)
  clear hb H0
  go_wp2_with fail
  refine (sums_Crc.calls _ _ [49, 50, 51, 52] _ _ (lit_C _ _ _ _ rfl (by decide)) (by decide) A2.out).mono ?_
  rintro e w2 ⟨rfl, hb⟩
  have H2 := Aside0.mk (growL H1.out hb)
  clear hb H1
  go_wp2_with fail
  refine (sums_More.calls _ _ _ [53, 54, 55, 56, 57] _ _ (lit_C _ _ _ _ rfl (by decide)) (by decide) A3.out).mono ?_
  rintro e w3 ⟨rfl, hb⟩
  have H3 := Aside0.mk (growL H2.out hb)
  clear hb H2
  go_wp2_with fail
  refine (sums_Fletcher.calls 10 _ _ [] _ _ (nil_C _) (by decide) A4.out).mono ?_
  rintro e w4 ⟨rfl, hb⟩
  have H4 := Aside0.mk (grow H3.out hb.below)
  clear hb H3
  go_wp2_with fail
  refine (sums_Fletcher.calls 10 _ _ [1] _ _ (lit_C _ _ _ _ rfl (by decide)) (by decide) A5.out).mono ?_
  rintro e w5 ⟨rfl, hb⟩
  have H5 := Aside0.mk (growL H4.out hb.below)
  clear hb H4
  go_wp2_with fail
  refine (sums_Fletcher.calls 10 _ _ [255, 255] _ _ (lit_C _ _ _ _ rfl (by decide)) (by decide) A6.out).mono ?_
  rintro e w6 ⟨rfl, hb⟩
  have H6 := Aside0.mk (growL H5.out hb.below)
  clear hb H5
  go_wp2_with fail
  refine (sums_Crc.calls _ _ [0] _ _ (lit_C _ _ _ _ rfl (by decide)) (by decide) A7.out).mono ?_
  rintro e w7 ⟨rfl, hb⟩
  have H7 := Aside0.mk (growL H6.out hb)
  clear hb H6
  go_wp2_with fail
  refine (chancerylaw02_awake.calls true _ rfl).mono ?_
  rintro e w8 ⟨rfl, hb⟩
  have H8 := Aside0.mk (grow H7.out hb)
  clear hb H7
  go_wp2_with fail
  go_ret
  exact ⟨rfl, H8.out⟩
end Go.Proofs.Ytipgllkapphimaa.N

import Derived.Test.YtipgllkapphimaaQx0
import Derived.Outline
import Derived.OneCell
import Derived.Lib.Hide
namespace Go.Proofs.Ytipgllkapphimaa.A
open Go.RowKit Go.Proofs.YtipgllkapphimaaW.PrintWords Go.Proofs.YtipgllkapphimaaW.PrintLast Go.Proofs.YtipgllkapphimaaW.PrintMore

def turn (x : Int) : Int := if bits BinOp.and IntKind.u32 x 1 == 1 then bits BinOp.xor IntKind.u32 (x / 2) 3988292384 else x / 2

structure One (w : World) (b : Nat) (x : Int) : Prop where
  heap : w.heap[b]? = some (.cells #[.int .u32 x] 22 (0, 0))
  lo : 0 ≤ x
  hi : x < 4294967296

def TurnPost (w : World) (b : Nat) (x : Int) (e : Ending) (w' : World) : Prop := e = .returned (.tuple #[]) ∧ One w' b (turn x) ∧ Below b w w'

theorem bits_u32 (op : BinOp) (x y : Int) : 0 ≤ bits op .u32 x y ∧ bits op .u32 x y < 4294967296 := by
  have e : ∀ n : Int, IntKind.u32.wrap n = n % 4294967296 := fun n => rfl
  unfold bits
  rw [e]
  omega

theorem turn_lo (x : Int) (h0 : 0 ≤ x) (h1 : x < 4294967296) : 0 ≤ turn x ∧ turn x < 4294967296 := by
  unfold turn
  split
  · exact bits_u32 _ _ _
  · omega

theorem turn_calls (w : World) (b : Nat) (x : Int) (ho : One w b x) :
    Calls Try.prog 18 #[.pointer (some ⟨b, 0, none⟩)] w (TurnPost w b x) := by
  obtain ⟨hh, hx0, hx1⟩ := ho
  have hc := cell_of_one hh
  have hf := free_of_one hh
  have T := turn_lo x hx0 hx1
  replace hh := Lib.hid hh
  by_cases h : (bits BinOp.and IntKind.u32 x 1 == 1) = true
  · have H : turn x = bits BinOp.xor IntKind.u32 (x / 2) 3988292384 := by unfold turn; rw [if_pos h]
    replace H := Lib.hid H
    go_enter Try.func18, Try.ntmps18
    go_wp2
    go_end0
    refine ⟨rfl, ⟨?_, T.1, T.2⟩, ?_⟩
    · rw [H.out]; exact one_setCell (one_setCell hh.out)
    · exact ((Below.refl b w).setCell (p := ⟨b, 0, none⟩) (Nat.le_refl b) _).setCell (p := ⟨b, 0, none⟩) (Nat.le_refl b) _
  · have H : turn x = x / 2 := by unfold turn; rw [if_neg h]
    have h2 : (bits BinOp.and IntKind.u32 x 1 == 1) = false := by simpa using h
    replace H := Lib.hid H
    clear h
    go_enter Try.func18, Try.ntmps18
    go_wp2
    go_end0
    refine ⟨rfl, ⟨?_, T.1, T.2⟩, ?_⟩
    · rw [H.out]; exact one_setCell hh.out
    · exact ((Below.refl b w).setCell (p := ⟨b, 0, none⟩) (Nat.le_refl b) _)

def turns : Nat → Int → Int
  | 0, x => x
  | n + 1, x => turn (turns n x)
def byteStep (x c : Int) : Int := turns 8 (bits .xor .u32 x (c % 4294967296))
def fold (l : List Int) (x : Int) : Int := l.foldl byteStep x
def sums_More.f (a0 : Int) (l1 : List Int) : Option Int := some (bits .xor .u32 4294967295 (fold l1 (bits .xor .u32 4294967295 a0)))

theorem turns_lo (n : Nat) (x : Int) (h0 : 0 ≤ x) (h1 : x < 4294967296) : 0 ≤ turns n x ∧ turns n x < 4294967296 := by
  induction n with
  | zero => exact ⟨h0, h1⟩
  | succ n ih => exact turn_lo _ ih.1 ih.2

theorem fold_snoc (l : List Int) (c x : Int) : fold (l ++ [c]) x = byteStep (fold l x) c := by simp [fold]
theorem take_snoc (l : List Int) (i : Nat) (h : i < l.length) : l.take (i + 1) = l.take i ++ [rd l i] := by
  rw [List.take_succ_eq_append_getElem h]; simp [rd, List.getD_eq_getElem?_getD, h]

theorem fold_step (l : List Int) (i x : Int) (h0 : 0 ≤ i) (h : i < l.length) : fold (l.take (i + 1).toNat) x = byteStep (fold (l.take i.toNat) x) (rd l i) := by
  rw [show (i + 1).toNat = i.toNat + 1 by omega, take_snoc l i.toNat (by omega), fold_snoc]
  rfl

theorem ret_u32 {a b : Int} (h : a = b) : Ending.returned (.int .u32 a) = .returned (.int .u32 b) := by rw [h]

set_option maxHeartbeats 1000000 in
theorem sums_More.calls (a0 : Int) (A1 : Option Addr) (c1 : Nat) (l1 : List Int) (r : Int) (w : World) (hr1 : Kd.C (Kd.int .u8) w A1 l1.length l1) (hc1 : l1.length ≤ c1) (h : sums_More.f a0 l1 = some r) :
    Calls Try.prog 8 #[.int .u32 a0, .slice A1 l1.length c1] w fun e w' => e = .returned (.int .u32 r) ∧ Below w.heap.size w w' := by
  have HR1 := Aside0.mk hr1
  have HC1 := Aside0.mk hc1
  have H := Lib.hid h
  have hlen : (l1.length : Int) ≤ 9223372036854775807 := by have := hr1.2.1; omega
  clear hr1 hc1 h
  have hs : IntKind.u32.signed = false := rfl
  have hm : IntKind.u32.max = 4294967295 := rfl
  obtain ⟨B, hB⟩ : ∃ B, B = w.heap.size := ⟨_, rfl⟩
  replace hB := Lib.hid hB
  go_enter Try.func8, Try.ntmps8
  go_wp2_with fail
  go_loopw [14] (fun v wr => ∃ i : Int, v = .int .i64 i ∧ 0 ≤ i ∧ i ≤ l1.length ∧ Aside0 (One wr w.heap.size (fold (l1.take i.toNat) (bits .xor .u32 4294967295 a0))) ∧ Aside0 (Below w.heap.size w wr)) (fun v _ => l1.length - (intOf v).toNat)
  case atStart => exact ⟨0, rfl, Int.le_refl _, by omega, ⟨⟨heap_alloc_new _ _, (bits_u32 .xor _ _).1, (bits_u32 .xor _ _).2⟩⟩, ⟨(Below.refl _ _).alloc (Nat.le_refl _) _⟩⟩
  case round =>
    obtain ⟨i, rfl, hi0, hi, HO, HBl⟩ := hrel
    obtain ⟨x, hx⟩ : ∃ x, x = fold (l1.take i.toNat) (bits .xor .u32 4294967295 a0) := ⟨_, rfl⟩
    rw [← hx] at HO
    replace hx := Lib.hid hx
    by_cases hlt : i < l1.length
    · obtain ⟨ad, e1, hc1⟩ := Kd.at_int (Kd.C_below HR1.out HBl.out) i hi0 hlt
      subst e1
      have hc := cell_of_one HO.out.heap
      have hf := free_of_one HO.out.heap
      go_wp2_with fail
      go_loopw [22] (fun v w2 => ∃ j : Int, v = .int .i64 j ∧ 0 ≤ j ∧ j ≤ 8 ∧ Aside0 (One w2 w.heap.size (turns j.toNat (bits .xor .u32 x ((rd l1 i) % 4294967296)))) ∧ Aside0 (Below w.heap.size w w2)) (fun v _ => 8 - (intOf v).toNat)
      case atStart => exact ⟨0, rfl, by decide, by decide, ⟨⟨one_setCell HO.out.heap, (bits_u32 .xor _ _).1, (bits_u32 .xor _ _).2⟩⟩, ⟨HBl.out.setCell (p := ⟨w.heap.size, 0, none⟩) (Nat.le_refl _) _⟩⟩
      case round =>
        obtain ⟨j, rfl, hj0, hj, HO2, HBl2⟩ := hrel
        by_cases hlt2 : j < 8
        · go_wp2_with (go_at_call 18; refine (turn_calls _ _ _ HO2.out).mono ?_; rintro e w3 ⟨rfl, ho3, hb3⟩; replace ho3 := Aside0.mk ho3; replace hb3 := Aside0.mk hb3)
          go_roundw
          case rel => exact ⟨j + 1, rfl, by omega, by omega, ⟨by rw [show (j + 1).toNat = j.toNat + 1 by omega]; exact ho3.out⟩, ⟨HBl2.out.trans hb3.out⟩⟩
          case measure => simp [intOf]; omega
        · go_wp2_with fail
          have e8 : j = 8 := by omega
          go_roundw
          case rel =>
            refine ⟨i + 1, rfl, by omega, by omega, ⟨?_⟩, HBl2⟩
            have hs := fold_step l1 i (bits .xor .u32 4294967295 a0) hi0 hlt
            rw [hs, ← hx.out]
            subst e8
            exact HO2.out
          case measure => simp [intOf]; omega
    · have hc := cell_of_one HO.out.heap
      go_wp2_with fail
      go_ret
      have e : i = l1.length := by omega
      subst e
      have h := H.out
      unfold sums_More.f at h
      injection h with h
      rw [Int.toNat_natCast, List.take_length] at hx
      exact ⟨ret_u32 (by rw [← h, ← hx.out]), HBl.out⟩
end Go.Proofs.Ytipgllkapphimaa.A

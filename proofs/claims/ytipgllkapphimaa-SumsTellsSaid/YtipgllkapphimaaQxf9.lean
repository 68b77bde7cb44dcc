-- By a program of this session (wip/printx.py) out of the translation. Not trusted: Lean checks it.
import Derived.Test.YtipgllkapphimaaQx0
namespace Go.Proofs.Ytipgllkapphimaa.Q
open Go.RowKit Go.Proofs.YtipgllkapphimaaW.PrintWords Go.Proofs.YtipgllkapphimaaW.PrintLast Go.Proofs.YtipgllkapphimaaW.PrintMore
attribute [local go_sem] max2_int min2_int max_two min_two max_three min_three max_four min_four   -- for this text's walks alone
set_option linter.unusedVariables false
set_option linter.unusedSimpArgs false

/-! ### sums_Fletcher: function 9 -/
def sums_Fletcher.l0 : Nat → List Int → Int → Int → Int → Int → Option (Int)
  | 0, _, _, _, _, _ => none
  | k + 1, x0, x3, x4, x10, x11 => if x11 < x10 then (if 0 ≤ (wrap64 (2 * x11)) then (if (wrap64 (2 * x11)) < (x0.length : Int) then (if (wrap64 ((wrap64 (2 * x11)) + 1)) < (x0.length : Int) then (if 0 ≤ (wrap64 ((wrap64 (2 * x11)) + 1)) then (sums_Fletcher.l0 k x0 (((x3 + (Go.bits .or .u32 ((rd x0 (wrap64 (2 * x11))) % 4294967296) ((((rd x0 (wrap64 ((wrap64 (2 * x11)) + 1))) % 4294967296) * 256) % 4294967296))) % 4294967296) % 65535) (((x4 + (((x3 + (Go.bits .or .u32 ((rd x0 (wrap64 (2 * x11))) % 4294967296) ((((rd x0 (wrap64 ((wrap64 (2 * x11)) + 1))) % 4294967296) * 256) % 4294967296))) % 4294967296) % 65535)) % 4294967296) % 65535) x10 (wrap64 (x11 + 1))) else (none)) else (sums_Fletcher.l0 k x0 (((x3 + ((rd x0 (wrap64 (2 * x11))) % 4294967296)) % 4294967296) % 65535) (((x4 + (((x3 + ((rd x0 (wrap64 (2 * x11))) % 4294967296)) % 4294967296) % 65535)) % 4294967296) % 65535) x10 (wrap64 (x11 + 1)))) else (none)) else (none)) else (some (Go.bits .or .u32 ((x4 * 65536) % 4294967296) x3))
def sums_Fletcher.f (k : Nat) (l0 : List Int) : Option (Int) := sums_Fletcher.l0 k l0 0 0 (wrap64 (Int.tdiv (wrap64 ((l0.length : Int) + 1)) 2)) 0
theorem sums_Fletcher.mono_l : ∀ k, (∀ y0 y1 y2 y3 y4, LeO (sums_Fletcher.l0 k y0 y1 y2 y3 y4) (sums_Fletcher.l0 (k + 1) y0 y1 y2 y3 y4))
  | 0 => fun _ _ _ _ _ r h => by simp [sums_Fletcher.l0] at h
  | k + 1 => by
    have ih0 := sums_Fletcher.mono_l k
    · intro y0 y1 y2 y3 y4
      unfold sums_Fletcher.l0
      repeat' first
      | (with_reducible exact ih0 _ _ _ _ _)
      | (with_reducible exact LeO.refl _)
      | (with_reducible exact LeO.none _)
      | (with_reducible refine LeO.ite ?_ ?_)
      | (with_reducible refine LeO.bind ?_ (fun _ => ?_))
      | exact ih0 _ _ _ _ _
      | exact LeO.none _
      | refine LeO.ite ?_ ?_
      | refine LeO.bind ?_ (fun _ => ?_)
theorem sums_Fletcher.mono : ∀ a0 k, LeO (sums_Fletcher.f k a0) (sums_Fletcher.f (k + 1) a0) := by
  intro a0 k
  have ih0 := sums_Fletcher.mono_l k
  unfold sums_Fletcher.f
  repeat' first
      | (with_reducible exact ih0 _ _ _ _ _)
      | (with_reducible exact LeO.refl _)
      | (with_reducible exact LeO.none _)
      | (with_reducible refine LeO.ite ?_ ?_)
      | (with_reducible refine LeO.bind ?_ (fun _ => ?_))
      | exact ih0 _ _ _ _ _
      | exact LeO.none _
      | refine LeO.ite ?_ ?_
      | refine LeO.bind ?_ (fun _ => ?_)
set_option maxHeartbeats 8000000 in
set_option maxRecDepth 100000 in
theorem sums_Fletcher.calls (k : Nat) (A0 : Option Addr) (c0 : Nat) (l0 : List Int) (r : Int) (w : World) (hr0 : Kd.C (Kd.int .u8) w A0 l0.length l0) (hc0 : l0.length ≤ c0) (h : sums_Fletcher.f k l0 = some r) :
    Calls Try.prog 9 #[.slice A0 l0.length c0] w fun e w' => e = .returned (.int .u32 r) ∧ Drawn0 w w' := by
  have HR0 := Aside0.mk hr0
  have HC0 := Aside0.mk hc0
  clear hr0 hc0
  have H : (sums_Fletcher.l0 k l0 0 0 (wrap64 (Int.tdiv (wrap64 ((l0.length : Int) + 1)) 2)) 0) = some r := h
  clear h
  have H' := Aside0.mk H
  clear H
  go_enter Try.func9, Try.ntmps9
  go_wp2
  go_loopg [3, 4, 11] k (fun kq v3 v4 v11 w' => ∃ (x3_1 : Int) (x4_1 : Int) (x11_1 : Int), v3 = .int .u32 x3_1 ∧ v4 = .int .u32 x4_1 ∧ v11 = .int .i64 x11_1 ∧ Aside0 (sums_Fletcher.l0 kq l0 x3_1 x4_1 (wrap64 (Int.tdiv (wrap64 ((l0.length : Int) + 1)) 2)) x11_1 = some r) ∧ Aside0 (kq ≤ k) ∧ Drawn0 w w')
  case atStart => exact ⟨(0), (0), (0), (by first | rfl | (simp; done) | (simp [*]; done)), (by first | rfl | (simp; done) | (simp [*]; done)), (by first | rfl | (simp; done) | (simp [*]; done)), H', ⟨Nat.le_refl _⟩, by repeat (first | exact Drawn0.refl _ | apply Drawn0.step)⟩
  case round =>
    clear H'
    obtain ⟨x3_1, x4_1, x11_1, rfl, rfl, rfl, HA, HK1, ⟨m1, rfl⟩⟩ := hrel
    cases gk with
    | zero => exact absurd HA.out (by simp [sums_Fletcher.l0])
    | succ k1 =>
      have H := HA.out
      clear HA
      simp only [sums_Fletcher.l0] at H
      by_cases c2 : x11_1 < (wrap64 (Int.tdiv (wrap64 ((l0.length : Int) + 1)) 2))
      · rw [if_pos c2] at H
        have c2b0 : decide (x11_1 < (wrap64 (Int.tdiv (wrap64 ((l0.length : Int) + 1)) 2))) = true := decide_eq_true c2
        clear c2
        obtain ⟨ji3, hji3⟩ : ∃ j_ : Int, (wrap64 (2 * x11_1)) = j_ := ⟨_, rfl⟩
        replace H : (if 0 ≤ (ji3) then (if (ji3) < (l0.length : Int) then (if (wrap64 ((ji3) + 1)) < (l0.length : Int) then (if 0 ≤ (wrap64 ((ji3) + 1)) then (sums_Fletcher.l0 k1 l0 (((x3_1 + (Go.bits .or .u32 ((rd l0 (ji3)) % 4294967296) ((((rd l0 (wrap64 ((ji3) + 1))) % 4294967296) * 256) % 4294967296))) % 4294967296) % 65535) (((x4_1 + (((x3_1 + (Go.bits .or .u32 ((rd l0 (ji3)) % 4294967296) ((((rd l0 (wrap64 ((ji3) + 1))) % 4294967296) * 256) % 4294967296))) % 4294967296) % 65535)) % 4294967296) % 65535) (wrap64 (Int.tdiv (wrap64 ((l0.length : Int) + 1)) 2)) (wrap64 (x11_1 + 1))) else (none)) else (sums_Fletcher.l0 k1 l0 (((x3_1 + ((rd l0 (ji3)) % 4294967296)) % 4294967296) % 65535) (((x4_1 + (((x3_1 + ((rd l0 (ji3)) % 4294967296)) % 4294967296) % 65535)) % 4294967296) % 65535) (wrap64 (Int.tdiv (wrap64 ((l0.length : Int) + 1)) 2)) (wrap64 (x11_1 + 1)))) else (none)) else (none)) = some r := by first | (rw [hji3] at H; exact H) | (simp only [hji3] at H ⊢; exact H)
        have hji3w : (IntKind.i64.wrap (2 * x11_1)) = ji3 := (i64_w _).trans hji3
        by_cases c4 : 0 ≤ (ji3)
        · rw [if_pos c4] at H
          have c4b0 : decide (0 ≤ (ji3)) = true := decide_eq_true c4
          clear c4
          by_cases c5 : (ji3) < (l0.length : Int)
          · rw [if_pos c5] at H
            have c5b0 : decide ((ji3) < (l0.length : Int)) = true := decide_eq_true c5
            clear c5
            by_cases c6 : (wrap64 ((ji3) + 1)) < (l0.length : Int)
            · rw [if_pos c6] at H
              have c6b0 : decide ((wrap64 ((ji3) + 1)) < (l0.length : Int)) = true := decide_eq_true c6
              clear c6
              obtain ⟨ji7, hji7⟩ : ∃ j_ : Int, (wrap64 ((ji3) + 1)) = j_ := ⟨_, rfl⟩
              replace H : (if 0 ≤ (ji7) then (sums_Fletcher.l0 k1 l0 (((x3_1 + (Go.bits .or .u32 ((rd l0 (ji3)) % 4294967296) ((((rd l0 (ji7)) % 4294967296) * 256) % 4294967296))) % 4294967296) % 65535) (((x4_1 + (((x3_1 + (Go.bits .or .u32 ((rd l0 (ji3)) % 4294967296) ((((rd l0 (ji7)) % 4294967296) * 256) % 4294967296))) % 4294967296) % 65535)) % 4294967296) % 65535) (wrap64 (Int.tdiv (wrap64 ((l0.length : Int) + 1)) 2)) (wrap64 (x11_1 + 1))) else (none)) = some r := by first | (rw [hji7] at H; exact H) | (simp only [hji7] at H ⊢; exact H)
              (try rw [hji7] at c6b0)
              have hji7w : (IntKind.i64.wrap ((ji3) + 1)) = ji7 := (i64_w _).trans hji7
              by_cases c8 : 0 ≤ (ji7)
              · rw [if_pos c8] at H
                have c8b0 : decide (0 ≤ (ji7)) = true := decide_eq_true c8
                clear c8
                have H' := Aside0.mk H
                clear H
                have p102 : 0 ≤ ((ji3) : Int) := of_decide_eq_true (by first | (with_reducible assumption) | assumption)
                have q102 : (ji3) < (l0.length : Int) := of_decide_eq_true (by first | (with_reducible assumption) | assumption)
                obtain ⟨ad102, e102, hx102_0⟩ := Kd.at_int HR0.out (ji3) p102 q102
                cases e102
                replace p102 := eq_true p102
                replace q102 := eq_true q102
                have p103 : 0 ≤ ((ji7) : Int) := of_decide_eq_true (by first | (with_reducible assumption) | assumption)
                have q103 : (ji7) < (l0.length : Int) := of_decide_eq_true (by first | (with_reducible assumption) | assumption)
                obtain ⟨ad103, e103, hx103_0⟩ := Kd.at_int HR0.out (ji7) p103 q103
                obtain rfl : ad102 = ad103 := (by injection e103)
                replace p103 := eq_true p103
                replace q103 := eq_true q103
                go_wp2
                go_roundg k1
                case measure => have := HK1.out; omega
                case rel => exact ⟨(((x3_1 + (Go.bits .or .u32 ((rd l0 (ji3)) % 4294967296) ((((rd l0 (ji7)) % 4294967296) * 256) % 4294967296))) % 4294967296) % 65535), (((x4_1 + (((x3_1 + (Go.bits .or .u32 ((rd l0 (ji3)) % 4294967296) ((((rd l0 (ji7)) % 4294967296) * 256) % 4294967296))) % 4294967296) % 65535)) % 4294967296) % 65535), (wrap64 (x11_1 + 1)), (by first | rfl | (simp; done) | (simp only [← hji3, ← hji7] <;> (first | rfl | simp)) | (simp [*]; done)), (by first | rfl | (simp; done) | (simp only [← hji3, ← hji7] <;> (first | rfl | simp)) | (simp [*]; done)), (by first | rfl | (simp; done) | (simp [*]; done)), H', ⟨by have := HK1.out; omega⟩, by repeat (first | exact Drawn0.refl _ | apply Drawn0.step)⟩
              · rw [if_neg c8] at H
                exact absurd H (by simp)
            · rw [if_neg c6] at H
              have c6b0 : decide ((wrap64 ((ji3) + 1)) < (l0.length : Int)) = false := decide_eq_false c6
              clear c6
              have H' := Aside0.mk H
              clear H
              have p102 : 0 ≤ ((ji3) : Int) := of_decide_eq_true (by first | (with_reducible assumption) | assumption)
              have q102 : (ji3) < (l0.length : Int) := of_decide_eq_true (by first | (with_reducible assumption) | assumption)
              obtain ⟨ad102, e102, hx102_0⟩ := Kd.at_int HR0.out (ji3) p102 q102
              cases e102
              replace p102 := eq_true p102
              replace q102 := eq_true q102
              go_wp2
              go_roundg k1
              case measure => have := HK1.out; omega
              case rel => exact ⟨(((x3_1 + ((rd l0 (ji3)) % 4294967296)) % 4294967296) % 65535), (((x4_1 + (((x3_1 + ((rd l0 (ji3)) % 4294967296)) % 4294967296) % 65535)) % 4294967296) % 65535), (wrap64 (x11_1 + 1)), (by first | rfl | (simp; done) | (simp only [← hji3] <;> (first | rfl | simp)) | (simp [*]; done)), (by first | rfl | (simp; done) | (simp only [← hji3] <;> (first | rfl | simp)) | (simp [*]; done)), (by first | rfl | (simp; done) | (simp [*]; done)), H', ⟨by have := HK1.out; omega⟩, by repeat (first | exact Drawn0.refl _ | apply Drawn0.step)⟩
          · rw [if_neg c5] at H
            exact absurd H (by simp)
        · rw [if_neg c4] at H
          exact absurd H (by simp)
      · rw [if_neg c2] at H
        have c2b0 : decide (x11_1 < (wrap64 (Int.tdiv (wrap64 ((l0.length : Int) + 1)) 2))) = false := decide_eq_false c2
        clear c2
        obtain rfl := Option.some.inj H
        go_wp2
        go_ret
        exact ⟨by first | rfl | (simp; done) | (simp [*]; done), by repeat (first | exact Drawn0.refl _ | apply Drawn0.step)⟩

end Go.Proofs.Ytipgllkapphimaa.Q

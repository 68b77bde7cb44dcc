import Derived.Test.YtnmdlimpfckicaaNp
/-! The walk of LexerNames. -/
namespace Go.Proofs.Ytnmdlimpfckicaa.Nw
open Go.RowKit Go.Proofs.Ytnmdlimpfckicaa.Q Go.Proofs.Ytnmdlimpfckicaa.R Go.Proofs.Ytnmdlimpfckicaa.S Go.Proofs.Ytnmdlimpfckicaa.V Go.Proofs.Ytnmdlimpfckicaa.Np
open Go.Proofs.YtnmdlimpfckicaaW.PrintWords Go.Proofs.YtnmdlimpfckicaaW.PrintLast Go.Proofs.YtnmdlimpfckicaaW.PrintMore
theorem name_not (a0 : ByteArray) (h : nameB a0 = true) : reservedB a0.data.toList = false := by
  unfold nameB at h
  cases hr : reservedB a0.data.toList
  · rfl
  · rw [hr] at h; simp at h
theorem GlobOK.drewN {w : World} (h : GlobOK w) (m : Nat) : GlobOK (w.drewN m) := h.drawn ⟨_, rfl⟩
set_option maxHeartbeats 8000000 in
theorem walk (a0 : ByteArray) (w : World) (hs : a0.size ≤ 140737488351232) (hg : GlobOK w) :
    Calls Try.prog 3 #[.string a0] w fun e w' => e = .returned (.bool true) ∧ Below w.heap.size w w' := by
  have A1 := name_f a0 hs
  obtain ⟨k, A2⟩ := refname_f a0 hs
  obtain ⟨k2, A5⟩ := awake_true
  have A3 : lexer_Reserved.f a0 = some (reservedB a0.data.toList) := by unfold lexer_Reserved.f; rw [if_pos (by omega)]
  have A4 : chanceryref19_Reserved.f a0 = some (reservedB a0.data.toList) := by unfold chanceryref19_Reserved.f; rw [if_pos (by omega)]
  have hn := name_not a0
  generalize nameB a0 = n at A1 A2 hn
  generalize reservedB a0.data.toList = q at A3 A4 hn
  clear hs
  have N1 := Aside0.mk (lexer_Name.calls a0 n · A1)
  have N2 := Aside0.mk (chanceryref19_Name.calls k a0 n · A2)
  have N3 := Aside0.mk (lexer_Reserved.calls a0 q · A3)
  have N4 := Aside0.mk (chanceryref19_Reserved.calls a0 q · A4)
  have N5 := Aside0.mk (chancerylaw19_awake.calls k2 true · A5)
  clear A1 A2 A3 A4 A5
  have HG := Aside0.mk hg
  clear hg
  cases n
  · clear hn
    cases q
    all_goals
      go_enter Try.func3, Try.ntmps3
      go_wp2_with fail
      refine (N1.out _ (by exact HG.out)).mono ?_
      rintro e w' ⟨rfl, ⟨m1, rfl⟩⟩
      go_wp2_with fail
      refine (N2.out _).mono ?_
      rintro e w' ⟨rfl, ⟨m2, rfl⟩⟩
      go_wp2_with fail
      refine (N3.out _ (by exact GlobOK.drewN HG.out _)).mono ?_
      rintro e w' ⟨rfl, ⟨m3, rfl⟩⟩
      go_wp2_with fail
      refine (N4.out _).mono ?_
      rintro e w' ⟨rfl, ⟨m4, rfl⟩⟩
      go_wp2_with fail
      refine (N1.out _ (by exact GlobOK.drewN HG.out _)).mono ?_
      rintro e w' ⟨rfl, ⟨m5, rfl⟩⟩
      go_wp2_with fail
      refine (N5.out _ (by exact GlobOK.drewN HG.out _)).mono ?_
      rintro e w' ⟨rfl, hb⟩
      replace hb := Aside0.mk hb
      go_wp2_with fail
      go_ret
      exact ⟨rfl, below_step (pw_below_drewN (Below.refl _ _) _) hb.out⟩
  · obtain rfl : q = false := hn rfl
    clear hn
    go_enter Try.func3, Try.ntmps3
    go_wp2_with fail
    refine (N1.out _ (by exact HG.out)).mono ?_
    rintro e w' ⟨rfl, ⟨m1, rfl⟩⟩
    go_wp2_with fail
    refine (N2.out _).mono ?_
    rintro e w' ⟨rfl, ⟨m2, rfl⟩⟩
    go_wp2_with fail
    refine (N3.out _ (by exact GlobOK.drewN HG.out _)).mono ?_
    rintro e w' ⟨rfl, ⟨m3, rfl⟩⟩
    go_wp2_with fail
    refine (N4.out _).mono ?_
    rintro e w' ⟨rfl, ⟨m4, rfl⟩⟩
    go_wp2_with fail
    refine (N1.out _ (by exact GlobOK.drewN HG.out _)).mono ?_
    rintro e w' ⟨rfl, ⟨m5, rfl⟩⟩
    go_wp2_with fail
    refine (N3.out _ (by exact GlobOK.drewN HG.out _)).mono ?_
    rintro e w' ⟨rfl, ⟨m6, rfl⟩⟩
    go_wp2_with fail
    refine (N5.out _ (by exact GlobOK.drewN HG.out _)).mono ?_
    rintro e w' ⟨rfl, hb⟩
    replace hb := Aside0.mk hb
    go_wp2_with fail
    go_ret
    exact ⟨rfl, below_step (pw_below_drewN (Below.refl _ _) _) hb.out⟩
end Go.Proofs.Ytnmdlimpfckicaa.Nw

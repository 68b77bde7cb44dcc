import Derived.Test.YtnmdlimpfckicaaDoorRowSpaces
namespace Go.Proofs.YtnmdlimpfckicaaDoor
open Go
set_option maxRecDepth 100000 in
/-- The tied card. -/
theorem lexerSpacesCard_holds : Rows.LexerSpacesCardSaid :=
  Claim7.holds_tied_plain_at .later [] [.data, .pinned] true (true, "0bdaffe0da40bb870d77fdc9942dca22e54c031242b87e6b1e319cb0bb0bb251") false
    lexerSpaces_holds (fun _ h => by cases h) (by kernel_rfl) (fun _ h => by cases h) lexerSpaces_row_tie rfl ⟨rfl, rfl⟩ (by kernel_rfl) rfl
    (fun f fn hf hfn => by
      obtain rfl : f = 3 := Option.some.inj ((show Tryd.prog.funcNamed "chancery/chancerylaw19.LexerSpaces" = some 3 by kernel_rfl).symm.trans hf) |>.symm
      obtain rfl : fn = Tryd.f3 := (Option.some.inj (Tryd.func3.symm.trans hfn)).symm
      exact ⟨by kernel_rfl, fun j t ht => by
        rw [Tryd.params3] at ht
        have hm : t ∈ [9, 9] := by simpa using Array.mem_of_getElem? ht
        have h9 : t = 9 := by simpa using hm
        subst h9
        exact (show Tryd.prog.wantsStandIn 9 = false by kernel_rfl)⟩)
    (by kernel_rfl)
#print axioms lexerSpacesCard_holds
end Go.Proofs.YtnmdlimpfckicaaDoor

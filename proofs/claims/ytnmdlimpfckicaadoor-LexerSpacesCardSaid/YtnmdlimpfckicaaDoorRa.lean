/- strings.ReplaceAll, in the print's form, out of the shelf. -/
import Derived.Test.YtnmdlimpfckicaaDoorS
import Derived.Test.YtnmdlimpfckicaaDoorShelf
namespace Go.Proofs.YtnmdlimpfckicaaDoor.Ra
open Go.RowKit Go.Proofs.YtnmdlimpfckicaaDoor.S Go.Proofs.YtnmdlimpfckicaaDoorW.PrintWords Go.Proofs.YtnmdlimpfckicaaDoorW.PrintLast Go.Proofs.YtnmdlimpfckicaaDoorW.PrintMore
def strings_ReplaceAll.f (a0 a1 a2 : ByteArray) : Option ByteArray :=
  if a0.size < 4294967281 ∧ 1 ≤ a1.size ∧ a0.size + Lib.countB a0 a1 * a2.size ≤ 140737488355328 then some ⟨(Lib.replaceAll a0.data.toList a1.data.toList a2.data.toList).toArray⟩ else none
theorem strings_ReplaceAll.calls (a0 a1 a2 : ByteArray) (r : ByteArray) (w : World) (h : strings_ReplaceAll.f a0 a1 a2 = some r) (hg : GlobOK w) :
    Calls Tryd.prog 6 #[.string a0, .string a1, .string a2] w fun e w' => e = .returned (.string r) ∧ Below w.heap.size w w' := by
  unfold strings_ReplaceAll.f at h
  by_cases hc : a0.size < 4294967281 ∧ 1 ≤ a1.size ∧ a0.size + Lib.countB a0 a1 * a2.size ≤ 140737488355328
  · rw [if_pos hc] at h
    injection h with h
    subst h
    obtain ⟨m, hm⟩ := hg
    exact Tryd.strings_ReplaceAll a0 a1 a2 m w hc.1 hm hc.2.1 hc.2.2
  · rw [if_neg hc] at h; cases h
end Go.Proofs.YtnmdlimpfckicaaDoor.Ra

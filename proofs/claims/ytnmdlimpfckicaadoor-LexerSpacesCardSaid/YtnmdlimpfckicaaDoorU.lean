/- Small words that the printed walks lack. -/
import Derived.WalkKit
import Derived.Test.YtnmdlimpfckicaaDoorWWords
namespace Go.Proofs.YtnmdlimpfckicaaDoor.U
/-- A cell that is written twice, one write behind the other. -/
theorem cell_twice {w : World} {a : Addr} {u v : Value} (h : (w.cell? a).isSome = true) : ((w.setCell a u).setCell a v).cell? a = some v := by
  obtain ⟨x, hx⟩ := Option.isSome_iff_exists.1 h
  obtain ⟨b, o, s⟩ := a
  have h1 : (w.setCell ⟨b, o, s⟩ u).cell? ⟨b, o, s⟩ = some u := by go_simp
  go_simp
end Go.Proofs.YtnmdlimpfckicaaDoor.U

/-
  No cell of these rows narrows 'for every input' (looked for: loops, veiled, ifaces, maps, wideKeys, modest, calm, conditions, laid).
  DERIVED. THE GIVEN ROWS OF THIS SEAT. 4 by the template 'for every input the law returns true; each argument reads behind the call as it read before'; 0 by the template 'total and deterministic' (their statements: YtipgllkapphimaaTotals.lean).
  GIVEN WITH THE SEED: the statements are not yours to turn. If you find one false, say at which input.
  Laid BY PROGRAM, IN A SANDBOX (cutbox-rows.mjs): the forced cells as the released guide's own fill.sh prints them over the translation a334ddb6f85ddc49… (all of the seat's roots in one cut). By AI agents, Wed Nov 11 2026. No macro, syntax, notation, axiom, sorry.
-/
import Derived.Test.YtipgllkapphimaaChecked
import GoSem.Claim
import GoSem.ClaimJoined
import GoSem.ClaimMapViews
import Derived.JoinedTies
import Derived.KernelRfl
namespace Go.Proofs.Ytipgllkapphimaa
/- THE CELL 'sum', in the pinned program and in every row, IS THE sha256 OF THE DUMP (.gsa) THAT YtipgllkapphimaaProg.lean LOADS. Nothing in Lean hashes anything: it is a label: what it is worth is what the hold of that sum in a sandbox is worth. -/
noncomputable def Try.pinned : Pinned := { name := "ytipgllkapphimaa", sum := "a334ddb6f85ddc49674cf811f167e5dae8479b2473ee4f7febed660a4df6092d", checked := Try.checked }
namespace Rows
def none {H : Type} : Left H := { results := [], args := [] }

/-- 'chancerylaw02.SumsNumbers': WHATEVER THE INPUT: true; the input reads as it did. -/
def sumsNumbersSpec : ChangeSpec := { name := "sumsNumbers", fn := fun _ => fun
  | [] => { results := [.lit (.bool true)], args := [] }
  | _ => none }
def sumsNumbersRow : OpenClaim := { program := "ytipgllkapphimaa", sum := "a334ddb6f85ddc49674cf811f167e5dae8479b2473ee4f7febed660a4df6092d", func := "chancery/chancerylaw02.SumsNumbers", spec := "sumsNumbers", unfollowed := true, recurses := true, apart := false }
def SumsNumbersSaid : Prop := sumsNumbersRow.holds Try.pinned (OpenSpec.ofChange sumsNumbersSpec)

/-- ITS FALSE NEIGHBOUR: 'it returns false'. Refute it at one input. -/
def sumsNumbersWrong : ChangeSpec := { name := "sumsNumbers", fn := fun _ => fun
  | [] => { results := [.lit (.bool false)], args := [] }
  | _ => none }
def SumsNumbersWrongFalsely : Prop := sumsNumbersRow.holds Try.pinned (OpenSpec.ofChange sumsNumbersWrong)

/-- 'chancerylaw02.SumsTells': WHATEVER THE INPUT: true; the input reads as it did. -/
def sumsTellsSpec : ChangeSpec := { name := "sumsTells", fn := fun _ => fun
  | [d1, d2] => { results := [.lit (.bool true)], args := [d1, d2] }
  | _ => none }
def sumsTellsRow : OpenClaim := { program := "ytipgllkapphimaa", sum := "a334ddb6f85ddc49674cf811f167e5dae8479b2473ee4f7febed660a4df6092d", func := "chancery/chancerylaw02.SumsTells", spec := "sumsTells", unfollowed := true, recurses := true, apart := false }
def SumsTellsSaid : Prop := sumsTellsRow.holds Try.pinned (OpenSpec.ofChange sumsTellsSpec)

/-- ITS FALSE NEIGHBOUR: 'it returns false'. Refute it at one input. -/
def sumsTellsWrong : ChangeSpec := { name := "sumsTells", fn := fun _ => fun
  | [d1, d2] => { results := [.lit (.bool false)], args := [d1, d2] }
  | _ => none }
def SumsTellsWrongFalsely : Prop := sumsTellsRow.holds Try.pinned (OpenSpec.ofChange sumsTellsWrong)

/-- 'chancerylaw02.SumsBursts': WHATEVER THE INPUT: true; the input reads as it did. -/
def sumsBurstsSpec : ChangeSpec := { name := "sumsBursts", fn := fun _ => fun
  | [d1, d2, d3] => { results := [.lit (.bool true)], args := [d1, d2, d3] }
  | _ => none }
def sumsBurstsRow : OpenClaim := { program := "ytipgllkapphimaa", sum := "a334ddb6f85ddc49674cf811f167e5dae8479b2473ee4f7febed660a4df6092d", func := "chancery/chancerylaw02.SumsBursts", spec := "sumsBursts", unfollowed := true, recurses := true, apart := false }
def SumsBurstsSaid : Prop := sumsBurstsRow.holds Try.pinned (OpenSpec.ofChange sumsBurstsSpec)

/-- ITS FALSE NEIGHBOUR: 'it returns false'. Refute it at one input. -/
def sumsBurstsWrong : ChangeSpec := { name := "sumsBursts", fn := fun _ => fun
  | [d1, d2, d3] => { results := [.lit (.bool false)], args := [d1, d2, d3] }
  | _ => none }
def SumsBurstsWrongFalsely : Prop := sumsBurstsRow.holds Try.pinned (OpenSpec.ofChange sumsBurstsWrong)

/-- 'chancerylaw02.SumsJoin': WHATEVER THE INPUT: true; the input reads as it did. -/
def sumsJoinSpec : ChangeSpec := { name := "sumsJoin", fn := fun _ => fun
  | [d1, d2, d3] => { results := [.lit (.bool true)], args := [d1, d2, d3] }
  | _ => none }
def sumsJoinRow : OpenClaim := { program := "ytipgllkapphimaa", sum := "a334ddb6f85ddc49674cf811f167e5dae8479b2473ee4f7febed660a4df6092d", func := "chancery/chancerylaw02.SumsJoin", spec := "sumsJoin", unfollowed := true, recurses := true, apart := false }
def SumsJoinSaid : Prop := sumsJoinRow.holds Try.pinned (OpenSpec.ofChange sumsJoinSpec)

/-- ITS FALSE NEIGHBOUR: 'it returns false'. Refute it at one input. -/
def sumsJoinWrong : ChangeSpec := { name := "sumsJoin", fn := fun _ => fun
  | [d1, d2, d3] => { results := [.lit (.bool false)], args := [d1, d2, d3] }
  | _ => none }
def SumsJoinWrongFalsely : Prop := sumsJoinRow.holds Try.pinned (OpenSpec.ofChange sumsJoinWrong)

/- THE SECOND FORM. 'bulk': how many values and letters a reading holds, each counted each time it is reached (what is shared counts as often as it is met; a slice's spare places count too). A statement '..UptoSaid' is the law's where the arguments, and the package variables that the reading takes, are together of bulk at most 1048576: NARROWER than '..Said'. Prove '..Said' where nothing that the law and all that it calls make is longer than what came in: it says more and counts as full. Else prove '..UptoSaid'. A law counts once. -/
mutual
def uptoBulk {H : Type} : DataW H → Nat
  | .lit (.string bytes) => bytes.length + 1
  | .lit _ => 1
  | .nil => 1
  | .ptr d => uptoBulk d + 1
  | .slice elems spare => uptoBulkAll elems + uptoBulkAll spare + 1
  | .agg parts => uptoBulkAll parts + 1
  | .iface _ d => uptoBulk d + 1
  | .map entries => uptoBulkEntries entries + 1
  | .held _ => 1
def uptoBulkAll {H : Type} : List (DataW H) → Nat
  | [] => 0
  | d :: r => uptoBulk d + uptoBulkAll r
def uptoBulkEntries {H : Type} : List (Lit × DataW H) → Nat
  | [] => 0
  | x :: r => uptoBulkEntry x + uptoBulkEntries r
def uptoBulkEntry {H : Type} : Lit × DataW H → Nat
  | (.string bytes, d) => bytes.length + uptoBulk d + 1
  | (_, d) => uptoBulk d + 1
 end
def uptoSmall : (H : Type) → List (DataW H) → Bool := fun _ ds => decide (uptoBulkAll ds ≤ 1048576)
def OpenSpec.upto (s : _root_.Go.ChangeSpec) : _root_.Go.OpenSpec := { _root_.Go.OpenSpec.ofChange s with cond := some uptoSmall }

/-- 'chancerylaw02.SumsNumbers', WHERE WHAT IT READS IS OF BULK AT MOST 1048576: true; the input reads as it did. -/
def sumsNumbersUptoRow : OpenClaim := { program := "ytipgllkapphimaa", sum := "a334ddb6f85ddc49674cf811f167e5dae8479b2473ee4f7febed660a4df6092d", func := "chancery/chancerylaw02.SumsNumbers", spec := "sumsNumbers", unfollowed := true, recurses := true, apart := false, narrowed := true }
def SumsNumbersUptoSaid : Prop := sumsNumbersUptoRow.holds Try.pinned (OpenSpec.upto sumsNumbersSpec)

/-- 'chancerylaw02.SumsTells', WHERE WHAT IT READS IS OF BULK AT MOST 1048576: true; the input reads as it did. -/
def sumsTellsUptoRow : OpenClaim := { program := "ytipgllkapphimaa", sum := "a334ddb6f85ddc49674cf811f167e5dae8479b2473ee4f7febed660a4df6092d", func := "chancery/chancerylaw02.SumsTells", spec := "sumsTells", unfollowed := true, recurses := true, apart := false, narrowed := true }
def SumsTellsUptoSaid : Prop := sumsTellsUptoRow.holds Try.pinned (OpenSpec.upto sumsTellsSpec)

/-- 'chancerylaw02.SumsBursts', WHERE WHAT IT READS IS OF BULK AT MOST 1048576: true; the input reads as it did. -/
def sumsBurstsUptoRow : OpenClaim := { program := "ytipgllkapphimaa", sum := "a334ddb6f85ddc49674cf811f167e5dae8479b2473ee4f7febed660a4df6092d", func := "chancery/chancerylaw02.SumsBursts", spec := "sumsBursts", unfollowed := true, recurses := true, apart := false, narrowed := true }
def SumsBurstsUptoSaid : Prop := sumsBurstsUptoRow.holds Try.pinned (OpenSpec.upto sumsBurstsSpec)

/-- 'chancerylaw02.SumsJoin', WHERE WHAT IT READS IS OF BULK AT MOST 1048576: true; the input reads as it did. -/
def sumsJoinUptoRow : OpenClaim := { program := "ytipgllkapphimaa", sum := "a334ddb6f85ddc49674cf811f167e5dae8479b2473ee4f7febed660a4df6092d", func := "chancery/chancerylaw02.SumsJoin", spec := "sumsJoin", unfollowed := true, recurses := true, apart := false, narrowed := true }
def SumsJoinUptoSaid : Prop := sumsJoinUptoRow.holds Try.pinned (OpenSpec.upto sumsJoinSpec)

end Rows
end Go.Proofs.Ytipgllkapphimaa

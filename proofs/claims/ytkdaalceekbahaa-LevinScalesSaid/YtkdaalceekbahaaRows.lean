/-
  No cell of these rows narrows 'for every input' (looked for: loops, veiled, ifaces, maps, wideKeys, modest, calm, conditions, laid).
  DERIVED. THE GIVEN ROWS OF THIS SEAT. 5 by the template 'for every input the law returns true; each argument reads behind the call as it read before'; 0 by the template 'total and deterministic' (their statements: YtkdaalceekbahaaTotals.lean).
  GIVEN WITH THE SEED: the statements are not yours to turn. If you find one false, say at which input.
  Laid BY PROGRAM, IN A SANDBOX (cutbox-rows.mjs): the forced cells as the released guide's own fill.sh prints them over the translation cbbddcab5c1ff6db… (all of the seat's roots in one cut). By AI agents, Wed Nov 11 2026. No macro, syntax, notation, axiom, sorry.
-/
import Derived.Test.YtkdaalceekbahaaChecked
import GoSem.Claim
import GoSem.ClaimJoined
import GoSem.ClaimMapViews
import Derived.JoinedTies
import Derived.KernelRfl
namespace Go.Proofs.Ytkdaalceekbahaa
/- THE CELL 'sum', in the pinned program and in every row, IS THE sha256 OF THE DUMP (.gsa) THAT YtkdaalceekbahaaProg.lean LOADS. Nothing in Lean hashes anything: it is a label: what it is worth is what the hold of that sum in a sandbox is worth. -/
noncomputable def Try.pinned : Pinned := { name := "ytkdaalceekbahaa", sum := "cbbddcab5c1ff6db2656016128dbacbe4be09e486f1420479c5b16cff7d2ae3a", checked := Try.checked }
namespace Rows
def none {H : Type} : Left H := { results := [], args := [] }

/-- 'descantlaw11.LevinNorms': WHATEVER THE INPUT: true; the input reads as it did. -/
def levinNormsSpec : ChangeSpec := { name := "levinNorms", fn := fun _ => fun
  | [d] => { results := [.lit (.bool true)], args := [d] }
  | _ => none }
def levinNormsRow : OpenClaim := { program := "ytkdaalceekbahaa", sum := "cbbddcab5c1ff6db2656016128dbacbe4be09e486f1420479c5b16cff7d2ae3a", func := "descant/descantlaw11.LevinNorms", spec := "levinNorms", apart := false }
def LevinNormsSaid : Prop := levinNormsRow.holds Try.pinned (OpenSpec.ofChange levinNormsSpec)

/-- ITS FALSE NEIGHBOUR: 'it returns false'. Refute it at one input. -/
def levinNormsWrong : ChangeSpec := { name := "levinNorms", fn := fun _ => fun
  | [d] => { results := [.lit (.bool false)], args := [d] }
  | _ => none }
def LevinNormsWrongFalsely : Prop := levinNormsRow.holds Try.pinned (OpenSpec.ofChange levinNormsWrong)

/-- 'descantlaw11.LevinSolves': WHATEVER THE INPUT: true; the input reads as it did. -/
def levinSolvesSpec : ChangeSpec := { name := "levinSolves", fn := fun _ => fun
  | [d1, d2] => { results := [.lit (.bool true)], args := [d1, d2] }
  | _ => none }
def levinSolvesRow : OpenClaim := { program := "ytkdaalceekbahaa", sum := "cbbddcab5c1ff6db2656016128dbacbe4be09e486f1420479c5b16cff7d2ae3a", func := "descant/descantlaw11.LevinSolves", spec := "levinSolves", apart := false }
def LevinSolvesSaid : Prop := levinSolvesRow.holds Try.pinned (OpenSpec.ofChange levinSolvesSpec)

/-- ITS FALSE NEIGHBOUR: 'it returns false'. Refute it at one input. -/
def levinSolvesWrong : ChangeSpec := { name := "levinSolves", fn := fun _ => fun
  | [d1, d2] => { results := [.lit (.bool false)], args := [d1, d2] }
  | _ => none }
def LevinSolvesWrongFalsely : Prop := levinSolvesRow.holds Try.pinned (OpenSpec.ofChange levinSolvesWrong)

/-- 'descantlaw11.LevinFalls': WHATEVER THE INPUT: true; the input reads as it did. -/
def levinFallsSpec : ChangeSpec := { name := "levinFalls", fn := fun _ => fun
  | [d1, d2] => { results := [.lit (.bool true)], args := [d1, d2] }
  | _ => none }
def levinFallsRow : OpenClaim := { program := "ytkdaalceekbahaa", sum := "cbbddcab5c1ff6db2656016128dbacbe4be09e486f1420479c5b16cff7d2ae3a", func := "descant/descantlaw11.LevinFalls", spec := "levinFalls", apart := false }
def LevinFallsSaid : Prop := levinFallsRow.holds Try.pinned (OpenSpec.ofChange levinFallsSpec)

/-- ITS FALSE NEIGHBOUR: 'it returns false'. Refute it at one input. -/
def levinFallsWrong : ChangeSpec := { name := "levinFalls", fn := fun _ => fun
  | [d1, d2] => { results := [.lit (.bool false)], args := [d1, d2] }
  | _ => none }
def LevinFallsWrongFalsely : Prop := levinFallsRow.holds Try.pinned (OpenSpec.ofChange levinFallsWrong)

/-- 'descantlaw11.LevinScales': WHATEVER THE INPUT: true; the input reads as it did. -/
def levinScalesSpec : ChangeSpec := { name := "levinScales", fn := fun _ => fun
  | [d1, d2, d3] => { results := [.lit (.bool true)], args := [d1, d2, d3] }
  | _ => none }
def levinScalesRow : OpenClaim := { program := "ytkdaalceekbahaa", sum := "cbbddcab5c1ff6db2656016128dbacbe4be09e486f1420479c5b16cff7d2ae3a", func := "descant/descantlaw11.LevinScales", spec := "levinScales", apart := false }
def LevinScalesSaid : Prop := levinScalesRow.holds Try.pinned (OpenSpec.ofChange levinScalesSpec)

/-- ITS FALSE NEIGHBOUR: 'it returns false'. Refute it at one input. -/
def levinScalesWrong : ChangeSpec := { name := "levinScales", fn := fun _ => fun
  | [d1, d2, d3] => { results := [.lit (.bool false)], args := [d1, d2, d3] }
  | _ => none }
def LevinScalesWrongFalsely : Prop := levinScalesRow.holds Try.pinned (OpenSpec.ofChange levinScalesWrong)

/-- 'descantlaw11.LevinOrders': WHATEVER THE INPUT: true; the input reads as it did. -/
def levinOrdersSpec : ChangeSpec := { name := "levinOrders", fn := fun _ => fun
  | [d1, d2, d3] => { results := [.lit (.bool true)], args := [d1, d2, d3] }
  | _ => none }
def levinOrdersRow : OpenClaim := { program := "ytkdaalceekbahaa", sum := "cbbddcab5c1ff6db2656016128dbacbe4be09e486f1420479c5b16cff7d2ae3a", func := "descant/descantlaw11.LevinOrders", spec := "levinOrders", apart := false }
def LevinOrdersSaid : Prop := levinOrdersRow.holds Try.pinned (OpenSpec.ofChange levinOrdersSpec)

/-- ITS FALSE NEIGHBOUR: 'it returns false'. Refute it at one input. -/
def levinOrdersWrong : ChangeSpec := { name := "levinOrders", fn := fun _ => fun
  | [d1, d2, d3] => { results := [.lit (.bool false)], args := [d1, d2, d3] }
  | _ => none }
def LevinOrdersWrongFalsely : Prop := levinOrdersRow.holds Try.pinned (OpenSpec.ofChange levinOrdersWrong)

/- THE SECOND FORM. 'bulk': how many values and letters a reading holds, each counted each time it is reached (what is shared counts as often as it is met; a slice's spare places count too). A statement '..UptoSaid' is the law's where the arguments, and the package variables that the reading takes, are together of bulk at most 1048576: NARROWER than '..Said'. Prove '..Said' where nothing that the law and all that it calls make is longer than what came in: it says more and counts as full. Else prove '..UptoSaid'. A law counts once. -/
mutual
def uptoBulk {H : Type} : DataW H → Nat
  | .lit (.string bytes) => bytes.length + 1
  | .lit _ => 1
  | .nil => 1
  | .ptr d => uptoBulk d + 1
  | .slice elems spare => uptoBulkAll elems + uptoBulkAll spare + 1
  | .agg parts => uptoBulkAll parts + 1
  | .iface _ d => uptoBulk d + 1
  | .map entries => uptoBulkEntries entries + 1
  | .held _ => 1
def uptoBulkAll {H : Type} : List (DataW H) → Nat
  | [] => 0
  | d :: r => uptoBulk d + uptoBulkAll r
def uptoBulkEntries {H : Type} : List (Lit × DataW H) → Nat
  | [] => 0
  | x :: r => uptoBulkEntry x + uptoBulkEntries r
def uptoBulkEntry {H : Type} : Lit × DataW H → Nat
  | (.string bytes, d) => bytes.length + uptoBulk d + 1
  | (_, d) => uptoBulk d + 1
 end
def uptoSmall : (H : Type) → List (DataW H) → Bool := fun _ ds => decide (uptoBulkAll ds ≤ 1048576)
def OpenSpec.upto (s : _root_.Go.ChangeSpec) : _root_.Go.OpenSpec := { _root_.Go.OpenSpec.ofChange s with cond := some uptoSmall }

/-- 'descantlaw11.LevinNorms', WHERE WHAT IT READS IS OF BULK AT MOST 1048576: true; the input reads as it did. -/
def levinNormsUptoRow : OpenClaim := { program := "ytkdaalceekbahaa", sum := "cbbddcab5c1ff6db2656016128dbacbe4be09e486f1420479c5b16cff7d2ae3a", func := "descant/descantlaw11.LevinNorms", spec := "levinNorms", apart := false, narrowed := true }
def LevinNormsUptoSaid : Prop := levinNormsUptoRow.holds Try.pinned (OpenSpec.upto levinNormsSpec)

/-- 'descantlaw11.LevinSolves', WHERE WHAT IT READS IS OF BULK AT MOST 1048576: true; the input reads as it did. -/
def levinSolvesUptoRow : OpenClaim := { program := "ytkdaalceekbahaa", sum := "cbbddcab5c1ff6db2656016128dbacbe4be09e486f1420479c5b16cff7d2ae3a", func := "descant/descantlaw11.LevinSolves", spec := "levinSolves", apart := false, narrowed := true }
def LevinSolvesUptoSaid : Prop := levinSolvesUptoRow.holds Try.pinned (OpenSpec.upto levinSolvesSpec)

/-- 'descantlaw11.LevinFalls', WHERE WHAT IT READS IS OF BULK AT MOST 1048576: true; the input reads as it did. -/
def levinFallsUptoRow : OpenClaim := { program := "ytkdaalceekbahaa", sum := "cbbddcab5c1ff6db2656016128dbacbe4be09e486f1420479c5b16cff7d2ae3a", func := "descant/descantlaw11.LevinFalls", spec := "levinFalls", apart := false, narrowed := true }
def LevinFallsUptoSaid : Prop := levinFallsUptoRow.holds Try.pinned (OpenSpec.upto levinFallsSpec)

/-- 'descantlaw11.LevinScales', WHERE WHAT IT READS IS OF BULK AT MOST 1048576: true; the input reads as it did. -/
def levinScalesUptoRow : OpenClaim := { program := "ytkdaalceekbahaa", sum := "cbbddcab5c1ff6db2656016128dbacbe4be09e486f1420479c5b16cff7d2ae3a", func := "descant/descantlaw11.LevinScales", spec := "levinScales", apart := false, narrowed := true }
def LevinScalesUptoSaid : Prop := levinScalesUptoRow.holds Try.pinned (OpenSpec.upto levinScalesSpec)

/-- 'descantlaw11.LevinOrders', WHERE WHAT IT READS IS OF BULK AT MOST 1048576: true; the input reads as it did. -/
def levinOrdersUptoRow : OpenClaim := { program := "ytkdaalceekbahaa", sum := "cbbddcab5c1ff6db2656016128dbacbe4be09e486f1420479c5b16cff7d2ae3a", func := "descant/descantlaw11.LevinOrders", spec := "levinOrders", apart := false, narrowed := true }
def LevinOrdersUptoSaid : Prop := levinOrdersUptoRow.holds Try.pinned (OpenSpec.upto levinOrdersSpec)

end Rows
end Go.Proofs.Ytkdaalceekbahaa

/-
  No cell of these rows narrows 'for every input' (looked for: loops, veiled, ifaces, maps, wideKeys, modest, calm, conditions, laid).
  DERIVED. THE GIVEN ROWS OF THIS SEAT. 5 by the template 'for every input the law returns true; each argument reads behind the call as it read before'; 0 by the template 'total and deterministic' (their statements: YtjehichejggfbaaTotals.lean).
  GIVEN WITH THE SEED: the statements are not yours to turn. If you find one false, say at which input.
  Laid BY PROGRAM, IN A SANDBOX (cutbox-rows.mjs): the forced cells as the released guide's own fill.sh prints them over the translation 762b217d4190a253… (all of the seat's roots in one cut). By AI agents, Wed Nov 11 2026. No macro, syntax, notation, axiom, sorry.
-/
import Derived.Test.YtjehichejggfbaaChecked
import GoSem.Claim
import GoSem.ClaimJoined
import GoSem.ClaimMapViews
import Derived.JoinedTies
import Derived.KernelRfl
namespace Go.Proofs.Ytjehichejggfbaa
/- THE CELL 'sum', in the pinned program and in every row, IS THE sha256 OF THE DUMP (.gsa) THAT YtjehichejggfbaaProg.lean LOADS. Nothing in Lean hashes anything: it is a label: what it is worth is what the hold of that sum in a sandbox is worth. -/
noncomputable def Try.pinned : Pinned := { name := "ytjehichejggfbaa", sum := "762b217d4190a253d2e5eccd95d96526498441d06e1468ef8e748ec5be964275", checked := Try.checked }
namespace Rows
def none {H : Type} : Left H := { results := [], args := [] }

/-- 'descantlaw16.ShapePlays': WHATEVER THE INPUT: true; the input reads as it did. -/
def shapePlaysSpec : ChangeSpec := { name := "shapePlays", fn := fun _ => fun
  | [d1, d2] => { results := [.lit (.bool true)], args := [d1, d2] }
  | _ => none }
def shapePlaysRow : OpenClaim := { program := "ytjehichejggfbaa", sum := "762b217d4190a253d2e5eccd95d96526498441d06e1468ef8e748ec5be964275", func := "descant/descantlaw16.ShapePlays", spec := "shapePlays", apart := false }
def ShapePlaysSaid : Prop := shapePlaysRow.holds Try.pinned (OpenSpec.ofChange shapePlaysSpec)

/-- ITS FALSE NEIGHBOUR: 'it returns false'. Refute it at one input. -/
def shapePlaysWrong : ChangeSpec := { name := "shapePlays", fn := fun _ => fun
  | [d1, d2] => { results := [.lit (.bool false)], args := [d1, d2] }
  | _ => none }
def ShapePlaysWrongFalsely : Prop := shapePlaysRow.holds Try.pinned (OpenSpec.ofChange shapePlaysWrong)

/-- 'descantlaw16.ShapeNil': WHATEVER THE INPUT: true; the input reads as it did. -/
def shapeNilSpec : ChangeSpec := { name := "shapeNil", fn := fun _ => fun
  | [d] => { results := [.lit (.bool true)], args := [d] }
  | _ => none }
def shapeNilRow : OpenClaim := { program := "ytjehichejggfbaa", sum := "762b217d4190a253d2e5eccd95d96526498441d06e1468ef8e748ec5be964275", func := "descant/descantlaw16.ShapeNil", spec := "shapeNil", apart := false }
def ShapeNilSaid : Prop := shapeNilRow.holds Try.pinned (OpenSpec.ofChange shapeNilSpec)

/-- ITS FALSE NEIGHBOUR: 'it returns false'. Refute it at one input. -/
def shapeNilWrong : ChangeSpec := { name := "shapeNil", fn := fun _ => fun
  | [d] => { results := [.lit (.bool false)], args := [d] }
  | _ => none }
def ShapeNilWrongFalsely : Prop := shapeNilRow.holds Try.pinned (OpenSpec.ofChange shapeNilWrong)

/-- 'descantlaw16.ShapeWeights': WHATEVER THE INPUT: true; the input reads as it did. -/
def shapeWeightsSpec : ChangeSpec := { name := "shapeWeights", fn := fun _ => fun
  | [d] => { results := [.lit (.bool true)], args := [d] }
  | _ => none }
def shapeWeightsRow : OpenClaim := { program := "ytjehichejggfbaa", sum := "762b217d4190a253d2e5eccd95d96526498441d06e1468ef8e748ec5be964275", func := "descant/descantlaw16.ShapeWeights", spec := "shapeWeights", apart := false }
def ShapeWeightsSaid : Prop := shapeWeightsRow.holds Try.pinned (OpenSpec.ofChange shapeWeightsSpec)

/-- ITS FALSE NEIGHBOUR: 'it returns false'. Refute it at one input. -/
def shapeWeightsWrong : ChangeSpec := { name := "shapeWeights", fn := fun _ => fun
  | [d] => { results := [.lit (.bool false)], args := [d] }
  | _ => none }
def ShapeWeightsWrongFalsely : Prop := shapeWeightsRow.holds Try.pinned (OpenSpec.ofChange shapeWeightsWrong)

/-- 'descantlaw16.ShapeTargets': WHATEVER THE INPUT: true; the input reads as it did. -/
def shapeTargetsSpec : ChangeSpec := { name := "shapeTargets", fn := fun _ => fun
  | [d1, d2, d3] => { results := [.lit (.bool true)], args := [d1, d2, d3] }
  | _ => none }
def shapeTargetsRow : OpenClaim := { program := "ytjehichejggfbaa", sum := "762b217d4190a253d2e5eccd95d96526498441d06e1468ef8e748ec5be964275", func := "descant/descantlaw16.ShapeTargets", spec := "shapeTargets", apart := false }
def ShapeTargetsSaid : Prop := shapeTargetsRow.holds Try.pinned (OpenSpec.ofChange shapeTargetsSpec)

/-- ITS FALSE NEIGHBOUR: 'it returns false'. Refute it at one input. -/
def shapeTargetsWrong : ChangeSpec := { name := "shapeTargets", fn := fun _ => fun
  | [d1, d2, d3] => { results := [.lit (.bool false)], args := [d1, d2, d3] }
  | _ => none }
def ShapeTargetsWrongFalsely : Prop := shapeTargetsRow.holds Try.pinned (OpenSpec.ofChange shapeTargetsWrong)

/-- 'descantlaw16.ShapeSilent': WHATEVER THE INPUT: true; the input reads as it did. -/
def shapeSilentSpec : ChangeSpec := { name := "shapeSilent", fn := fun _ => fun
  | [d1, d2, d3] => { results := [.lit (.bool true)], args := [d1, d2, d3] }
  | _ => none }
def shapeSilentRow : OpenClaim := { program := "ytjehichejggfbaa", sum := "762b217d4190a253d2e5eccd95d96526498441d06e1468ef8e748ec5be964275", func := "descant/descantlaw16.ShapeSilent", spec := "shapeSilent", apart := false }
def ShapeSilentSaid : Prop := shapeSilentRow.holds Try.pinned (OpenSpec.ofChange shapeSilentSpec)

/-- ITS FALSE NEIGHBOUR: 'it returns false'. Refute it at one input. -/
def shapeSilentWrong : ChangeSpec := { name := "shapeSilent", fn := fun _ => fun
  | [d1, d2, d3] => { results := [.lit (.bool false)], args := [d1, d2, d3] }
  | _ => none }
def ShapeSilentWrongFalsely : Prop := shapeSilentRow.holds Try.pinned (OpenSpec.ofChange shapeSilentWrong)

/- THE SECOND FORM. 'bulk': how many values and letters a reading holds, each counted each time it is reached (what is shared counts as often as it is met; a slice's spare places count too). A statement '..UptoSaid' is the law's where the arguments, and the package variables that the reading takes, are together of bulk at most 1048576: NARROWER than '..Said'. Prove '..Said' where nothing that the law and all that it calls make is longer than what came in: it says more and counts as full. Else prove '..UptoSaid'. A law counts once. -/
mutual
def uptoBulk {H : Type} : DataW H → Nat
  | .lit (.string bytes) => bytes.length + 1
  | .lit _ => 1
  | .nil => 1
  | .ptr d => uptoBulk d + 1
  | .slice elems spare => uptoBulkAll elems + uptoBulkAll spare + 1
  | .agg parts => uptoBulkAll parts + 1
  | .iface _ d => uptoBulk d + 1
  | .map entries => uptoBulkEntries entries + 1
  | .held _ => 1
def uptoBulkAll {H : Type} : List (DataW H) → Nat
  | [] => 0
  | d :: r => uptoBulk d + uptoBulkAll r
def uptoBulkEntries {H : Type} : List (Lit × DataW H) → Nat
  | [] => 0
  | x :: r => uptoBulkEntry x + uptoBulkEntries r
def uptoBulkEntry {H : Type} : Lit × DataW H → Nat
  | (.string bytes, d) => bytes.length + uptoBulk d + 1
  | (_, d) => uptoBulk d + 1
 end
def uptoSmall : (H : Type) → List (DataW H) → Bool := fun _ ds => decide (uptoBulkAll ds ≤ 1048576)
def OpenSpec.upto (s : _root_.Go.ChangeSpec) : _root_.Go.OpenSpec := { _root_.Go.OpenSpec.ofChange s with cond := some uptoSmall }

/-- 'descantlaw16.ShapePlays', WHERE WHAT IT READS IS OF BULK AT MOST 1048576: true; the input reads as it did. -/
def shapePlaysUptoRow : OpenClaim := { program := "ytjehichejggfbaa", sum := "762b217d4190a253d2e5eccd95d96526498441d06e1468ef8e748ec5be964275", func := "descant/descantlaw16.ShapePlays", spec := "shapePlays", apart := false, narrowed := true }
def ShapePlaysUptoSaid : Prop := shapePlaysUptoRow.holds Try.pinned (OpenSpec.upto shapePlaysSpec)

/-- 'descantlaw16.ShapeNil', WHERE WHAT IT READS IS OF BULK AT MOST 1048576: true; the input reads as it did. -/
def shapeNilUptoRow : OpenClaim := { program := "ytjehichejggfbaa", sum := "762b217d4190a253d2e5eccd95d96526498441d06e1468ef8e748ec5be964275", func := "descant/descantlaw16.ShapeNil", spec := "shapeNil", apart := false, narrowed := true }
def ShapeNilUptoSaid : Prop := shapeNilUptoRow.holds Try.pinned (OpenSpec.upto shapeNilSpec)

/-- 'descantlaw16.ShapeWeights', WHERE WHAT IT READS IS OF BULK AT MOST 1048576: true; the input reads as it did. -/
def shapeWeightsUptoRow : OpenClaim := { program := "ytjehichejggfbaa", sum := "762b217d4190a253d2e5eccd95d96526498441d06e1468ef8e748ec5be964275", func := "descant/descantlaw16.ShapeWeights", spec := "shapeWeights", apart := false, narrowed := true }
def ShapeWeightsUptoSaid : Prop := shapeWeightsUptoRow.holds Try.pinned (OpenSpec.upto shapeWeightsSpec)

/-- 'descantlaw16.ShapeTargets', WHERE WHAT IT READS IS OF BULK AT MOST 1048576: true; the input reads as it did. -/
def shapeTargetsUptoRow : OpenClaim := { program := "ytjehichejggfbaa", sum := "762b217d4190a253d2e5eccd95d96526498441d06e1468ef8e748ec5be964275", func := "descant/descantlaw16.ShapeTargets", spec := "shapeTargets", apart := false, narrowed := true }
def ShapeTargetsUptoSaid : Prop := shapeTargetsUptoRow.holds Try.pinned (OpenSpec.upto shapeTargetsSpec)

/-- 'descantlaw16.ShapeSilent', WHERE WHAT IT READS IS OF BULK AT MOST 1048576: true; the input reads as it did. -/
def shapeSilentUptoRow : OpenClaim := { program := "ytjehichejggfbaa", sum := "762b217d4190a253d2e5eccd95d96526498441d06e1468ef8e748ec5be964275", func := "descant/descantlaw16.ShapeSilent", spec := "shapeSilent", apart := false, narrowed := true }
def ShapeSilentUptoSaid : Prop := shapeSilentUptoRow.holds Try.pinned (OpenSpec.upto shapeSilentSpec)

end Rows
end Go.Proofs.Ytjehichejggfbaa

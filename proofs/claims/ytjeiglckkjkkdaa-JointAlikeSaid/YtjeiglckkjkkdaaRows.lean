/-
  No cell of these rows narrows 'for every input' (looked for: loops, veiled, ifaces, maps, wideKeys, modest, calm, conditions, laid).
  DERIVED. THE GIVEN ROWS OF THIS SEAT. 4 by the template 'for every input the law returns true; each argument reads behind the call as it read before'; 0 by the template 'total and deterministic' (their statements: YtjeiglckkjkkdaaTotals.lean).
  GIVEN WITH THE SEED: the statements are not yours to turn. If you find one false, say at which input.
  Laid BY PROGRAM, IN A SANDBOX (cutbox-rows.mjs): the forced cells as the released guide's own fill.sh prints them over the translation cc03c8992247ed1f… (all of the seat's roots in one cut). By AI agents, Wed Nov 11 2026. No macro, syntax, notation, axiom, sorry.
-/
import Derived.Test.YtjeiglckkjkkdaaChecked
import GoSem.Claim
import GoSem.ClaimJoined
import GoSem.ClaimMapViews
import Derived.JoinedTies
import Derived.KernelRfl
namespace Go.Proofs.Ytjeiglckkjkkdaa
/- THE CELL 'sum', in the pinned program and in every row, IS THE sha256 OF THE DUMP (.gsa) THAT YtjeiglckkjkkdaaProg.lean LOADS. Nothing in Lean hashes anything: it is a label: what it is worth is what the hold of that sum in a sandbox is worth. -/
noncomputable def Try.pinned : Pinned := { name := "ytjeiglckkjkkdaa", sum := "cc03c8992247ed1f91a9970ac33a890013d40706bad4ee76183c867266540cf2", checked := Try.checked }
namespace Rows
def none {H : Type} : Left H := { results := [], args := [] }

/-- 'descantlaw18.JointTurns': WHATEVER THE INPUT: true; the input reads as it did. -/
def jointTurnsSpec : ChangeSpec := { name := "jointTurns", fn := fun _ => fun
  | [d1, d2, d3, d4] => { results := [.lit (.bool true)], args := [d1, d2, d3, d4] }
  | _ => none }
def jointTurnsRow : OpenClaim := { program := "ytjeiglckkjkkdaa", sum := "cc03c8992247ed1f91a9970ac33a890013d40706bad4ee76183c867266540cf2", func := "descant/descantlaw18.JointTurns", spec := "jointTurns", unfollowed := true, recurses := true, apart := false }
def JointTurnsSaid : Prop := jointTurnsRow.holds Try.pinned (OpenSpec.ofChange jointTurnsSpec)

/-- ITS FALSE NEIGHBOUR: 'it returns false'. Refute it at one input. -/
def jointTurnsWrong : ChangeSpec := { name := "jointTurns", fn := fun _ => fun
  | [d1, d2, d3, d4] => { results := [.lit (.bool false)], args := [d1, d2, d3, d4] }
  | _ => none }
def JointTurnsWrongFalsely : Prop := jointTurnsRow.holds Try.pinned (OpenSpec.ofChange jointTurnsWrong)

/-- 'descantlaw18.JointBacks': WHATEVER THE INPUT: true; the input reads as it did. -/
def jointBacksSpec : ChangeSpec := { name := "jointBacks", fn := fun _ => fun
  | [d1, d2, d3, d4] => { results := [.lit (.bool true)], args := [d1, d2, d3, d4] }
  | _ => none }
def jointBacksRow : OpenClaim := { program := "ytjeiglckkjkkdaa", sum := "cc03c8992247ed1f91a9970ac33a890013d40706bad4ee76183c867266540cf2", func := "descant/descantlaw18.JointBacks", spec := "jointBacks", unfollowed := true, recurses := true, apart := false }
def JointBacksSaid : Prop := jointBacksRow.holds Try.pinned (OpenSpec.ofChange jointBacksSpec)

/-- ITS FALSE NEIGHBOUR: 'it returns false'. Refute it at one input. -/
def jointBacksWrong : ChangeSpec := { name := "jointBacks", fn := fun _ => fun
  | [d1, d2, d3, d4] => { results := [.lit (.bool false)], args := [d1, d2, d3, d4] }
  | _ => none }
def JointBacksWrongFalsely : Prop := jointBacksRow.holds Try.pinned (OpenSpec.ofChange jointBacksWrong)

/-- 'descantlaw18.JointReturns': WHATEVER THE INPUT: true; the input reads as it did. -/
def jointReturnsSpec : ChangeSpec := { name := "jointReturns", fn := fun _ => fun
  | [d1, d2, d3, d4] => { results := [.lit (.bool true)], args := [d1, d2, d3, d4] }
  | _ => none }
def jointReturnsRow : OpenClaim := { program := "ytjeiglckkjkkdaa", sum := "cc03c8992247ed1f91a9970ac33a890013d40706bad4ee76183c867266540cf2", func := "descant/descantlaw18.JointReturns", spec := "jointReturns", unfollowed := true, recurses := true, apart := false }
def JointReturnsSaid : Prop := jointReturnsRow.holds Try.pinned (OpenSpec.ofChange jointReturnsSpec)

/-- ITS FALSE NEIGHBOUR: 'it returns false'. Refute it at one input. -/
def jointReturnsWrong : ChangeSpec := { name := "jointReturns", fn := fun _ => fun
  | [d1, d2, d3, d4] => { results := [.lit (.bool false)], args := [d1, d2, d3, d4] }
  | _ => none }
def JointReturnsWrongFalsely : Prop := jointReturnsRow.holds Try.pinned (OpenSpec.ofChange jointReturnsWrong)

/-- 'descantlaw18.JointAlike': WHATEVER THE INPUT: true; the input reads as it did. -/
def jointAlikeSpec : ChangeSpec := { name := "jointAlike", fn := fun _ => fun
  | [d] => { results := [.lit (.bool true)], args := [d] }
  | _ => none }
def jointAlikeRow : OpenClaim := { program := "ytjeiglckkjkkdaa", sum := "cc03c8992247ed1f91a9970ac33a890013d40706bad4ee76183c867266540cf2", func := "descant/descantlaw18.JointAlike", spec := "jointAlike", unfollowed := true, recurses := true, apart := false }
def JointAlikeSaid : Prop := jointAlikeRow.holds Try.pinned (OpenSpec.ofChange jointAlikeSpec)

/-- ITS FALSE NEIGHBOUR: 'it returns false'. Refute it at one input. -/
def jointAlikeWrong : ChangeSpec := { name := "jointAlike", fn := fun _ => fun
  | [d] => { results := [.lit (.bool false)], args := [d] }
  | _ => none }
def JointAlikeWrongFalsely : Prop := jointAlikeRow.holds Try.pinned (OpenSpec.ofChange jointAlikeWrong)

/- THE SECOND FORM. 'bulk': how many values and letters a reading holds, each counted each time it is reached (what is shared counts as often as it is met; a slice's spare places count too). A statement '..UptoSaid' is the law's where the arguments, and the package variables that the reading takes, are together of bulk at most 1048576: NARROWER than '..Said'. Prove '..Said' where nothing that the law and all that it calls make is longer than what came in: it says more and counts as full. Else prove '..UptoSaid'. A law counts once. -/
mutual
def uptoBulk {H : Type} : DataW H → Nat
  | .lit (.string bytes) => bytes.length + 1
  | .lit _ => 1
  | .nil => 1
  | .ptr d => uptoBulk d + 1
  | .slice elems spare => uptoBulkAll elems + uptoBulkAll spare + 1
  | .agg parts => uptoBulkAll parts + 1
  | .iface _ d => uptoBulk d + 1
  | .map entries => uptoBulkEntries entries + 1
  | .held _ => 1
def uptoBulkAll {H : Type} : List (DataW H) → Nat
  | [] => 0
  | d :: r => uptoBulk d + uptoBulkAll r
def uptoBulkEntries {H : Type} : List (Lit × DataW H) → Nat
  | [] => 0
  | x :: r => uptoBulkEntry x + uptoBulkEntries r
def uptoBulkEntry {H : Type} : Lit × DataW H → Nat
  | (.string bytes, d) => bytes.length + uptoBulk d + 1
  | (_, d) => uptoBulk d + 1
 end
def uptoSmall : (H : Type) → List (DataW H) → Bool := fun _ ds => decide (uptoBulkAll ds ≤ 1048576)
def OpenSpec.upto (s : _root_.Go.ChangeSpec) : _root_.Go.OpenSpec := { _root_.Go.OpenSpec.ofChange s with cond := some uptoSmall }

/-- 'descantlaw18.JointTurns', WHERE WHAT IT READS IS OF BULK AT MOST 1048576: true; the input reads as it did. -/
def jointTurnsUptoRow : OpenClaim := { program := "ytjeiglckkjkkdaa", sum := "cc03c8992247ed1f91a9970ac33a890013d40706bad4ee76183c867266540cf2", func := "descant/descantlaw18.JointTurns", spec := "jointTurns", unfollowed := true, recurses := true, apart := false, narrowed := true }
def JointTurnsUptoSaid : Prop := jointTurnsUptoRow.holds Try.pinned (OpenSpec.upto jointTurnsSpec)

/-- 'descantlaw18.JointBacks', WHERE WHAT IT READS IS OF BULK AT MOST 1048576: true; the input reads as it did. -/
def jointBacksUptoRow : OpenClaim := { program := "ytjeiglckkjkkdaa", sum := "cc03c8992247ed1f91a9970ac33a890013d40706bad4ee76183c867266540cf2", func := "descant/descantlaw18.JointBacks", spec := "jointBacks", unfollowed := true, recurses := true, apart := false, narrowed := true }
def JointBacksUptoSaid : Prop := jointBacksUptoRow.holds Try.pinned (OpenSpec.upto jointBacksSpec)

/-- 'descantlaw18.JointReturns', WHERE WHAT IT READS IS OF BULK AT MOST 1048576: true; the input reads as it did. -/
def jointReturnsUptoRow : OpenClaim := { program := "ytjeiglckkjkkdaa", sum := "cc03c8992247ed1f91a9970ac33a890013d40706bad4ee76183c867266540cf2", func := "descant/descantlaw18.JointReturns", spec := "jointReturns", unfollowed := true, recurses := true, apart := false, narrowed := true }
def JointReturnsUptoSaid : Prop := jointReturnsUptoRow.holds Try.pinned (OpenSpec.upto jointReturnsSpec)

/-- 'descantlaw18.JointAlike', WHERE WHAT IT READS IS OF BULK AT MOST 1048576: true; the input reads as it did. -/
def jointAlikeUptoRow : OpenClaim := { program := "ytjeiglckkjkkdaa", sum := "cc03c8992247ed1f91a9970ac33a890013d40706bad4ee76183c867266540cf2", func := "descant/descantlaw18.JointAlike", spec := "jointAlike", unfollowed := true, recurses := true, apart := false, narrowed := true }
def JointAlikeUptoSaid : Prop := jointAlikeUptoRow.holds Try.pinned (OpenSpec.upto jointAlikeSpec)

end Rows
end Go.Proofs.Ytjeiglckkjkkdaa

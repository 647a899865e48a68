/-
  No cell of these rows narrows 'for every input' (looked for: loops, veiled, ifaces, maps, wideKeys, modest, calm, conditions, laid).
  DERIVED. THE GIVEN ROWS OF THIS SEAT. 4 by the template 'for every input the law returns true; each argument reads behind the call as it read before'; 0 by the template 'total and deterministic' (their statements: YthoklnnnnkfhcaaTotals.lean).
  GIVEN WITH THE SEED: the statements are not yours to turn. If you find one false, say at which input.
  Laid BY PROGRAM, IN A SANDBOX (cutbox-rows.mjs): the forced cells as the released guide's own fill.sh prints them over the translation d0030d92ec703219… (all of the seat's roots in one cut). By AI agents, Wed Nov 11 2026. No macro, syntax, notation, axiom, sorry.
-/
import Derived.Test.YthoklnnnnkfhcaaChecked
import GoSem.Claim
import GoSem.ClaimJoined
import GoSem.ClaimMapViews
import Derived.JoinedTies
import Derived.KernelRfl
namespace Go.Proofs.Ythoklnnnnkfhcaa
/- THE CELL 'sum', in the pinned program and in every row, IS THE sha256 OF THE DUMP (.gsa) THAT YthoklnnnnkfhcaaProg.lean LOADS. Nothing in Lean hashes anything: it is a label: what it is worth is what the hold of that sum in a sandbox is worth. -/
noncomputable def Try.pinned : Pinned := { name := "ythoklnnnnkfhcaa", sum := "d0030d92ec703219f7f9febb7cdd5c76673db1ae1cdb6293590f13a774a4e67a", checked := Try.checked }
namespace Rows
def none {H : Type} : Left H := { results := [], args := [] }

/-- 'palanquinlaw23.HwZero': WHATEVER THE INPUT: true; the input reads as it did. -/
def hwZeroSpec : ChangeSpec := { name := "hwZero", fn := fun _ => fun
  | [d1, d2] => { results := [.lit (.bool true)], args := [d1, d2] }
  | _ => none }
def hwZeroRow : OpenClaim := { program := "ythoklnnnnkfhcaa", sum := "d0030d92ec703219f7f9febb7cdd5c76673db1ae1cdb6293590f13a774a4e67a", func := "palanquin/palanquinlaw23.HwZero", spec := "hwZero", apart := false }
def HwZeroSaid : Prop := hwZeroRow.holds Try.pinned (OpenSpec.ofChange hwZeroSpec)

/-- ITS FALSE NEIGHBOUR: 'it returns false'. Refute it at one input. -/
def hwZeroWrong : ChangeSpec := { name := "hwZero", fn := fun _ => fun
  | [d1, d2] => { results := [.lit (.bool false)], args := [d1, d2] }
  | _ => none }
def HwZeroWrongFalsely : Prop := hwZeroRow.holds Try.pinned (OpenSpec.ofChange hwZeroWrong)

/-- 'palanquinlaw23.HwPlays': WHATEVER THE INPUT: true; the input reads as it did. -/
def hwPlaysSpec : ChangeSpec := { name := "hwPlays", fn := fun _ => fun
  | [d1, d2, d3] => { results := [.lit (.bool true)], args := [d1, d2, d3] }
  | _ => none }
def hwPlaysRow : OpenClaim := { program := "ythoklnnnnkfhcaa", sum := "d0030d92ec703219f7f9febb7cdd5c76673db1ae1cdb6293590f13a774a4e67a", func := "palanquin/palanquinlaw23.HwPlays", spec := "hwPlays", apart := false }
def HwPlaysSaid : Prop := hwPlaysRow.holds Try.pinned (OpenSpec.ofChange hwPlaysSpec)

/-- ITS FALSE NEIGHBOUR: 'it returns false'. Refute it at one input. -/
def hwPlaysWrong : ChangeSpec := { name := "hwPlays", fn := fun _ => fun
  | [d1, d2, d3] => { results := [.lit (.bool false)], args := [d1, d2, d3] }
  | _ => none }
def HwPlaysWrongFalsely : Prop := hwPlaysRow.holds Try.pinned (OpenSpec.ofChange hwPlaysWrong)

/-- 'palanquinlaw23.HwOne': WHATEVER THE INPUT: true; the input reads as it did. -/
def hwOneSpec : ChangeSpec := { name := "hwOne", fn := fun _ => fun
  | [d1, d2, d3, d4] => { results := [.lit (.bool true)], args := [d1, d2, d3, d4] }
  | _ => none }
def hwOneRow : OpenClaim := { program := "ythoklnnnnkfhcaa", sum := "d0030d92ec703219f7f9febb7cdd5c76673db1ae1cdb6293590f13a774a4e67a", func := "palanquin/palanquinlaw23.HwOne", spec := "hwOne", apart := false }
def HwOneSaid : Prop := hwOneRow.holds Try.pinned (OpenSpec.ofChange hwOneSpec)

/-- ITS FALSE NEIGHBOUR: 'it returns false'. Refute it at one input. -/
def hwOneWrong : ChangeSpec := { name := "hwOne", fn := fun _ => fun
  | [d1, d2, d3, d4] => { results := [.lit (.bool false)], args := [d1, d2, d3, d4] }
  | _ => none }
def HwOneWrongFalsely : Prop := hwOneRow.holds Try.pinned (OpenSpec.ofChange hwOneWrong)

/-- 'palanquinlaw23.HwAll': WHATEVER THE INPUT: true; the input reads as it did. -/
def hwAllSpec : ChangeSpec := { name := "hwAll", fn := fun _ => fun
  | [d1, d2] => { results := [.lit (.bool true)], args := [d1, d2] }
  | _ => none }
def hwAllRow : OpenClaim := { program := "ythoklnnnnkfhcaa", sum := "d0030d92ec703219f7f9febb7cdd5c76673db1ae1cdb6293590f13a774a4e67a", func := "palanquin/palanquinlaw23.HwAll", spec := "hwAll", apart := false }
def HwAllSaid : Prop := hwAllRow.holds Try.pinned (OpenSpec.ofChange hwAllSpec)

/-- ITS FALSE NEIGHBOUR: 'it returns false'. Refute it at one input. -/
def hwAllWrong : ChangeSpec := { name := "hwAll", fn := fun _ => fun
  | [d1, d2] => { results := [.lit (.bool false)], args := [d1, d2] }
  | _ => none }
def HwAllWrongFalsely : Prop := hwAllRow.holds Try.pinned (OpenSpec.ofChange hwAllWrong)

/- THE SECOND FORM. 'bulk': how many values and letters a reading holds, each counted each time it is reached (what is shared counts as often as it is met; a slice's spare places count too). A statement '..UptoSaid' is the law's where the arguments, and the package variables that the reading takes, are together of bulk at most 1048576: NARROWER than '..Said'. Prove '..Said' where nothing that the law and all that it calls make is longer than what came in: it says more and counts as full. Else prove '..UptoSaid'. A law counts once. -/
mutual
def uptoBulk {H : Type} : DataW H → Nat
  | .lit (.string bytes) => bytes.length + 1
  | .lit _ => 1
  | .nil => 1
  | .ptr d => uptoBulk d + 1
  | .slice elems spare => uptoBulkAll elems + uptoBulkAll spare + 1
  | .agg parts => uptoBulkAll parts + 1
  | .iface _ d => uptoBulk d + 1
  | .map entries => uptoBulkEntries entries + 1
  | .held _ => 1
def uptoBulkAll {H : Type} : List (DataW H) → Nat
  | [] => 0
  | d :: r => uptoBulk d + uptoBulkAll r
def uptoBulkEntries {H : Type} : List (Lit × DataW H) → Nat
  | [] => 0
  | x :: r => uptoBulkEntry x + uptoBulkEntries r
def uptoBulkEntry {H : Type} : Lit × DataW H → Nat
  | (.string bytes, d) => bytes.length + uptoBulk d + 1
  | (_, d) => uptoBulk d + 1
 end
def uptoSmall : (H : Type) → List (DataW H) → Bool := fun _ ds => decide (uptoBulkAll ds ≤ 1048576)
def OpenSpec.upto (s : _root_.Go.ChangeSpec) : _root_.Go.OpenSpec := { _root_.Go.OpenSpec.ofChange s with cond := some uptoSmall }

/-- 'palanquinlaw23.HwZero', WHERE WHAT IT READS IS OF BULK AT MOST 1048576: true; the input reads as it did. -/
def hwZeroUptoRow : OpenClaim := { program := "ythoklnnnnkfhcaa", sum := "d0030d92ec703219f7f9febb7cdd5c76673db1ae1cdb6293590f13a774a4e67a", func := "palanquin/palanquinlaw23.HwZero", spec := "hwZero", apart := false, narrowed := true }
def HwZeroUptoSaid : Prop := hwZeroUptoRow.holds Try.pinned (OpenSpec.upto hwZeroSpec)

/-- 'palanquinlaw23.HwPlays', WHERE WHAT IT READS IS OF BULK AT MOST 1048576: true; the input reads as it did. -/
def hwPlaysUptoRow : OpenClaim := { program := "ythoklnnnnkfhcaa", sum := "d0030d92ec703219f7f9febb7cdd5c76673db1ae1cdb6293590f13a774a4e67a", func := "palanquin/palanquinlaw23.HwPlays", spec := "hwPlays", apart := false, narrowed := true }
def HwPlaysUptoSaid : Prop := hwPlaysUptoRow.holds Try.pinned (OpenSpec.upto hwPlaysSpec)

/-- 'palanquinlaw23.HwOne', WHERE WHAT IT READS IS OF BULK AT MOST 1048576: true; the input reads as it did. -/
def hwOneUptoRow : OpenClaim := { program := "ythoklnnnnkfhcaa", sum := "d0030d92ec703219f7f9febb7cdd5c76673db1ae1cdb6293590f13a774a4e67a", func := "palanquin/palanquinlaw23.HwOne", spec := "hwOne", apart := false, narrowed := true }
def HwOneUptoSaid : Prop := hwOneUptoRow.holds Try.pinned (OpenSpec.upto hwOneSpec)

/-- 'palanquinlaw23.HwAll', WHERE WHAT IT READS IS OF BULK AT MOST 1048576: true; the input reads as it did. -/
def hwAllUptoRow : OpenClaim := { program := "ythoklnnnnkfhcaa", sum := "d0030d92ec703219f7f9febb7cdd5c76673db1ae1cdb6293590f13a774a4e67a", func := "palanquin/palanquinlaw23.HwAll", spec := "hwAll", apart := false, narrowed := true }
def HwAllUptoSaid : Prop := hwAllUptoRow.holds Try.pinned (OpenSpec.upto hwAllSpec)

end Rows
end Go.Proofs.Ythoklnnnnkfhcaa

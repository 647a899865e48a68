/-
  No cell of these rows narrows 'for every input' (looked for: loops, veiled, ifaces, maps, wideKeys, modest, calm, conditions, laid).
  DERIVED. THE GIVEN ROWS OF THIS SEAT. 4 by the template 'for every input the law returns true; each argument reads behind the call as it read before'; 0 by the template 'total and deterministic' (their statements: YtcjadneamacilaaTotals.lean).
  GIVEN WITH THE SEED: the statements are not yours to turn. If you find one false, say at which input.
  Laid BY PROGRAM, IN A SANDBOX (cutbox-rows.mjs): the forced cells as the released guide's own fill.sh prints them over the translation 75b7e3dbe5ecd0de… (all of the seat's roots in one cut). By AI agents, Wed Nov 11 2026. No macro, syntax, notation, axiom, sorry.
-/
import Derived.Test.YtcjadneamacilaaChecked
import GoSem.Claim
import GoSem.ClaimJoined
import GoSem.ClaimMapViews
import Derived.JoinedTies
import Derived.KernelRfl
namespace Go.Proofs.Ytcjadneamacilaa
/- THE CELL 'sum', in the pinned program and in every row, IS THE sha256 OF THE DUMP (.gsa) THAT YtcjadneamacilaaProg.lean LOADS. Nothing in Lean hashes anything: it is a label: what it is worth is what the hold of that sum in a sandbox is worth. -/
noncomputable def Try.pinned : Pinned := { name := "ytcjadneamacilaa", sum := "75b7e3dbe5ecd0de2b9a82b700b6c0569c8664ba0493a4924b6f2f58903361a5", checked := Try.checked }
namespace Rows
def none {H : Type} : Left H := { results := [], args := [] }

/-- 'palanquinlaw39.SnapTakes': WHATEVER THE INPUT: true; the input reads as it did. -/
def snapTakesSpec : ChangeSpec := { name := "snapTakes", fn := fun _ => fun
  | [d1, d2, d3, d4, d5, d6] => { results := [.lit (.bool true)], args := [d1, d2, d3, d4, d5, d6] }
  | _ => none }
def snapTakesRow : OpenClaim := { program := "ytcjadneamacilaa", sum := "75b7e3dbe5ecd0de2b9a82b700b6c0569c8664ba0493a4924b6f2f58903361a5", func := "palanquin/palanquinlaw39.SnapTakes", spec := "snapTakes", unfollowed := true, recurses := true, plainKeys := false, apart := false }
def SnapTakesSaid : Prop := snapTakesRow.holds Try.pinned (OpenSpec.ofChange snapTakesSpec)

/-- ITS FALSE NEIGHBOUR: 'it returns false'. Refute it at one input. -/
def snapTakesWrong : ChangeSpec := { name := "snapTakes", fn := fun _ => fun
  | [d1, d2, d3, d4, d5, d6] => { results := [.lit (.bool false)], args := [d1, d2, d3, d4, d5, d6] }
  | _ => none }
def SnapTakesWrongFalsely : Prop := snapTakesRow.holds Try.pinned (OpenSpec.ofChange snapTakesWrong)

/-- 'palanquinlaw39.SnapDiff': WHATEVER THE INPUT: true; the input reads as it did. -/
def snapDiffSpec : ChangeSpec := { name := "snapDiff", fn := fun _ => fun
  | [d1, d2] => { results := [.lit (.bool true)], args := [d1, d2] }
  | _ => none }
def snapDiffRow : OpenClaim := { program := "ytcjadneamacilaa", sum := "75b7e3dbe5ecd0de2b9a82b700b6c0569c8664ba0493a4924b6f2f58903361a5", func := "palanquin/palanquinlaw39.SnapDiff", spec := "snapDiff", unfollowed := true, recurses := true, plainKeys := false, apart := false }
def SnapDiffSaid : Prop := snapDiffRow.holds Try.pinned (OpenSpec.ofChange snapDiffSpec)

/-- ITS FALSE NEIGHBOUR: 'it returns false'. Refute it at one input. -/
def snapDiffWrong : ChangeSpec := { name := "snapDiff", fn := fun _ => fun
  | [d1, d2] => { results := [.lit (.bool false)], args := [d1, d2] }
  | _ => none }
def SnapDiffWrongFalsely : Prop := snapDiffRow.holds Try.pinned (OpenSpec.ofChange snapDiffWrong)

/-- 'palanquinlaw39.SnapCut': WHATEVER THE INPUT: true; the input reads as it did. -/
def snapCutSpec : ChangeSpec := { name := "snapCut", fn := fun _ => fun
  | [d1, d2, d3, d4] => { results := [.lit (.bool true)], args := [d1, d2, d3, d4] }
  | _ => none }
def snapCutRow : OpenClaim := { program := "ytcjadneamacilaa", sum := "75b7e3dbe5ecd0de2b9a82b700b6c0569c8664ba0493a4924b6f2f58903361a5", func := "palanquin/palanquinlaw39.SnapCut", spec := "snapCut", inPlace := ["internal/abi.NoEscape", "internal/bytealg.MakeNoZero"], unfollowed := true, recurses := true, plainKeys := false, apart := false }
def SnapCutSaid : Prop := snapCutRow.holds Try.pinned (OpenSpec.ofChange snapCutSpec)

/-- ITS FALSE NEIGHBOUR: 'it returns false'. Refute it at one input. -/
def snapCutWrong : ChangeSpec := { name := "snapCut", fn := fun _ => fun
  | [d1, d2, d3, d4] => { results := [.lit (.bool false)], args := [d1, d2, d3, d4] }
  | _ => none }
def SnapCutWrongFalsely : Prop := snapCutRow.holds Try.pinned (OpenSpec.ofChange snapCutWrong)

/-- 'palanquinlaw39.SnapTells': WHATEVER THE INPUT: true; the input reads as it did. -/
def snapTellsSpec : ChangeSpec := { name := "snapTells", fn := fun _ => fun
  | [d1, d2, d3, d4, d5] => { results := [.lit (.bool true)], args := [d1, d2, d3, d4, d5] }
  | _ => none }
def snapTellsRow : OpenClaim := { program := "ytcjadneamacilaa", sum := "75b7e3dbe5ecd0de2b9a82b700b6c0569c8664ba0493a4924b6f2f58903361a5", func := "palanquin/palanquinlaw39.SnapTells", spec := "snapTells", inPlace := ["internal/abi.NoEscape", "internal/bytealg.MakeNoZero"], unfollowed := true, recurses := true, plainKeys := false, apart := false }
def SnapTellsSaid : Prop := snapTellsRow.holds Try.pinned (OpenSpec.ofChange snapTellsSpec)

/-- ITS FALSE NEIGHBOUR: 'it returns false'. Refute it at one input. -/
def snapTellsWrong : ChangeSpec := { name := "snapTells", fn := fun _ => fun
  | [d1, d2, d3, d4, d5] => { results := [.lit (.bool false)], args := [d1, d2, d3, d4, d5] }
  | _ => none }
def SnapTellsWrongFalsely : Prop := snapTellsRow.holds Try.pinned (OpenSpec.ofChange snapTellsWrong)

/- THE SECOND FORM. 'bulk': how many values and letters a reading holds, each counted each time it is reached (what is shared counts as often as it is met; a slice's spare places count too). A statement '..UptoSaid' is the law's where the arguments, and the package variables that the reading takes, are together of bulk at most 1048576: NARROWER than '..Said'. Prove '..Said' where nothing that the law and all that it calls make is longer than what came in: it says more and counts as full. Else prove '..UptoSaid'. A law counts once. -/
mutual
def uptoBulk {H : Type} : DataW H → Nat
  | .lit (.string bytes) => bytes.length + 1
  | .lit _ => 1
  | .nil => 1
  | .ptr d => uptoBulk d + 1
  | .slice elems spare => uptoBulkAll elems + uptoBulkAll spare + 1
  | .agg parts => uptoBulkAll parts + 1
  | .iface _ d => uptoBulk d + 1
  | .map entries => uptoBulkEntries entries + 1
  | .held _ => 1
def uptoBulkAll {H : Type} : List (DataW H) → Nat
  | [] => 0
  | d :: r => uptoBulk d + uptoBulkAll r
def uptoBulkEntries {H : Type} : List (Lit × DataW H) → Nat
  | [] => 0
  | x :: r => uptoBulkEntry x + uptoBulkEntries r
def uptoBulkEntry {H : Type} : Lit × DataW H → Nat
  | (.string bytes, d) => bytes.length + uptoBulk d + 1
  | (_, d) => uptoBulk d + 1
 end
def uptoSmall : (H : Type) → List (DataW H) → Bool := fun _ ds => decide (uptoBulkAll ds ≤ 1048576)
def OpenSpec.upto (s : _root_.Go.ChangeSpec) : _root_.Go.OpenSpec := { _root_.Go.OpenSpec.ofChange s with cond := some uptoSmall }

/-- 'palanquinlaw39.SnapTakes', WHERE WHAT IT READS IS OF BULK AT MOST 1048576: true; the input reads as it did. -/
def snapTakesUptoRow : OpenClaim := { program := "ytcjadneamacilaa", sum := "75b7e3dbe5ecd0de2b9a82b700b6c0569c8664ba0493a4924b6f2f58903361a5", func := "palanquin/palanquinlaw39.SnapTakes", spec := "snapTakes", unfollowed := true, recurses := true, plainKeys := false, apart := false, narrowed := true }
def SnapTakesUptoSaid : Prop := snapTakesUptoRow.holds Try.pinned (OpenSpec.upto snapTakesSpec)

/-- 'palanquinlaw39.SnapDiff', WHERE WHAT IT READS IS OF BULK AT MOST 1048576: true; the input reads as it did. -/
def snapDiffUptoRow : OpenClaim := { program := "ytcjadneamacilaa", sum := "75b7e3dbe5ecd0de2b9a82b700b6c0569c8664ba0493a4924b6f2f58903361a5", func := "palanquin/palanquinlaw39.SnapDiff", spec := "snapDiff", unfollowed := true, recurses := true, plainKeys := false, apart := false, narrowed := true }
def SnapDiffUptoSaid : Prop := snapDiffUptoRow.holds Try.pinned (OpenSpec.upto snapDiffSpec)

/-- 'palanquinlaw39.SnapCut', WHERE WHAT IT READS IS OF BULK AT MOST 1048576: true; the input reads as it did. -/
def snapCutUptoRow : OpenClaim := { program := "ytcjadneamacilaa", sum := "75b7e3dbe5ecd0de2b9a82b700b6c0569c8664ba0493a4924b6f2f58903361a5", func := "palanquin/palanquinlaw39.SnapCut", spec := "snapCut", inPlace := ["internal/abi.NoEscape", "internal/bytealg.MakeNoZero"], unfollowed := true, recurses := true, plainKeys := false, apart := false, narrowed := true }
def SnapCutUptoSaid : Prop := snapCutUptoRow.holds Try.pinned (OpenSpec.upto snapCutSpec)

/-- 'palanquinlaw39.SnapTells', WHERE WHAT IT READS IS OF BULK AT MOST 1048576: true; the input reads as it did. -/
def snapTellsUptoRow : OpenClaim := { program := "ytcjadneamacilaa", sum := "75b7e3dbe5ecd0de2b9a82b700b6c0569c8664ba0493a4924b6f2f58903361a5", func := "palanquin/palanquinlaw39.SnapTells", spec := "snapTells", inPlace := ["internal/abi.NoEscape", "internal/bytealg.MakeNoZero"], unfollowed := true, recurses := true, plainKeys := false, apart := false, narrowed := true }
def SnapTellsUptoSaid : Prop := snapTellsUptoRow.holds Try.pinned (OpenSpec.upto snapTellsSpec)

end Rows
end Go.Proofs.Ytcjadneamacilaa

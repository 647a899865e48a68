/-
  No cell of these rows narrows 'for every input' (looked for: loops, veiled, ifaces, maps, wideKeys, modest, calm, conditions, laid).
  DERIVED. THE GIVEN ROWS OF THIS SEAT. 4 by the template 'for every input the law returns true; each argument reads behind the call as it read before'; 0 by the template 'total and deterministic' (their statements: YtcmflbjaloandaaTotals.lean).
  GIVEN WITH THE SEED: the statements are not yours to turn. If you find one false, say at which input.
  Laid BY PROGRAM, IN A SANDBOX (cutbox-rows.mjs): the forced cells as the released guide's own fill.sh prints them over the translation d8f0f1e6de24c12e… (all of the seat's roots in one cut). By AI agents, Wed Nov 11 2026. No macro, syntax, notation, axiom, sorry.
-/
import Derived.Test.YtcmflbjaloandaaChecked
import GoSem.Claim
import GoSem.ClaimJoined
import GoSem.ClaimMapViews
import Derived.JoinedTies
import Derived.KernelRfl
namespace Go.Proofs.Ytcmflbjaloandaa
/- THE CELL 'sum', in the pinned program and in every row, IS THE sha256 OF THE DUMP (.gsa) THAT YtcmflbjaloandaaProg.lean LOADS. Nothing in Lean hashes anything: it is a label: what it is worth is what the hold of that sum in a sandbox is worth. -/
noncomputable def Try.pinned : Pinned := { name := "ytcmflbjaloandaa", sum := "d8f0f1e6de24c12e55ae187cf528809accdf89c8f6367ab5d1d44b46b9ed593c", checked := Try.checked }
namespace Rows
def none {H : Type} : Left H := { results := [], args := [] }

/-- 'palanquinlaw06.TypZero': WHATEVER THE INPUT: true; the input reads as it did. -/
def typZeroSpec : ChangeSpec := { name := "typZero", fn := fun _ => fun
  | [d] => { results := [.lit (.bool true)], args := [d] }
  | _ => none }
def typZeroRow : OpenClaim := { program := "ytcmflbjaloandaa", sum := "d8f0f1e6de24c12e55ae187cf528809accdf89c8f6367ab5d1d44b46b9ed593c", func := "palanquin/palanquinlaw06.TypZero", spec := "typZero", apart := false }
def TypZeroSaid : Prop := typZeroRow.holds Try.pinned (OpenSpec.ofChange typZeroSpec)

/-- ITS FALSE NEIGHBOUR: 'it returns false'. Refute it at one input. -/
def typZeroWrong : ChangeSpec := { name := "typZero", fn := fun _ => fun
  | [d] => { results := [.lit (.bool false)], args := [d] }
  | _ => none }
def TypZeroWrongFalsely : Prop := typZeroRow.holds Try.pinned (OpenSpec.ofChange typZeroWrong)

/-- 'palanquinlaw06.TypNeeded': WHATEVER THE INPUT: true; the input reads as it did. -/
def typNeededSpec : ChangeSpec := { name := "typNeeded", fn := fun _ => fun
  | [d1, d2] => { results := [.lit (.bool true)], args := [d1, d2] }
  | _ => none }
def typNeededRow : OpenClaim := { program := "ytcmflbjaloandaa", sum := "d8f0f1e6de24c12e55ae187cf528809accdf89c8f6367ab5d1d44b46b9ed593c", func := "palanquin/palanquinlaw06.TypNeeded", spec := "typNeeded", apart := false }
def TypNeededSaid : Prop := typNeededRow.holds Try.pinned (OpenSpec.ofChange typNeededSpec)

/-- ITS FALSE NEIGHBOUR: 'it returns false'. Refute it at one input. -/
def typNeededWrong : ChangeSpec := { name := "typNeeded", fn := fun _ => fun
  | [d1, d2] => { results := [.lit (.bool false)], args := [d1, d2] }
  | _ => none }
def TypNeededWrongFalsely : Prop := typNeededRow.holds Try.pinned (OpenSpec.ofChange typNeededWrong)

/-- 'palanquinlaw06.TypPlays': WHATEVER THE INPUT: true; the input reads as it did. -/
def typPlaysSpec : ChangeSpec := { name := "typPlays", fn := fun _ => fun
  | [d1, d2, d3, d4, d5] => { results := [.lit (.bool true)], args := [d1, d2, d3, d4, d5] }
  | _ => none }
def typPlaysRow : OpenClaim := { program := "ytcmflbjaloandaa", sum := "d8f0f1e6de24c12e55ae187cf528809accdf89c8f6367ab5d1d44b46b9ed593c", func := "palanquin/palanquinlaw06.TypPlays", spec := "typPlays", apart := false }
def TypPlaysSaid : Prop := typPlaysRow.holds Try.pinned (OpenSpec.ofChange typPlaysSpec)

/-- ITS FALSE NEIGHBOUR: 'it returns false'. Refute it at one input. -/
def typPlaysWrong : ChangeSpec := { name := "typPlays", fn := fun _ => fun
  | [d1, d2, d3, d4, d5] => { results := [.lit (.bool false)], args := [d1, d2, d3, d4, d5] }
  | _ => none }
def TypPlaysWrongFalsely : Prop := typPlaysRow.holds Try.pinned (OpenSpec.ofChange typPlaysWrong)

/-- 'palanquinlaw06.TypFull': WHATEVER THE INPUT: true; the input reads as it did. -/
def typFullSpec : ChangeSpec := { name := "typFull", fn := fun _ => fun
  | [d] => { results := [.lit (.bool true)], args := [d] }
  | _ => none }
def typFullRow : OpenClaim := { program := "ytcmflbjaloandaa", sum := "d8f0f1e6de24c12e55ae187cf528809accdf89c8f6367ab5d1d44b46b9ed593c", func := "palanquin/palanquinlaw06.TypFull", spec := "typFull", apart := false }
def TypFullSaid : Prop := typFullRow.holds Try.pinned (OpenSpec.ofChange typFullSpec)

/-- ITS FALSE NEIGHBOUR: 'it returns false'. Refute it at one input. -/
def typFullWrong : ChangeSpec := { name := "typFull", fn := fun _ => fun
  | [d] => { results := [.lit (.bool false)], args := [d] }
  | _ => none }
def TypFullWrongFalsely : Prop := typFullRow.holds Try.pinned (OpenSpec.ofChange typFullWrong)

/- THE SECOND FORM. 'bulk': how many values and letters a reading holds, each counted each time it is reached (what is shared counts as often as it is met; a slice's spare places count too). A statement '..UptoSaid' is the law's where the arguments, and the package variables that the reading takes, are together of bulk at most 1048576: NARROWER than '..Said'. Prove '..Said' where nothing that the law and all that it calls make is longer than what came in: it says more and counts as full. Else prove '..UptoSaid'. A law counts once. -/
mutual
def uptoBulk {H : Type} : DataW H → Nat
  | .lit (.string bytes) => bytes.length + 1
  | .lit _ => 1
  | .nil => 1
  | .ptr d => uptoBulk d + 1
  | .slice elems spare => uptoBulkAll elems + uptoBulkAll spare + 1
  | .agg parts => uptoBulkAll parts + 1
  | .iface _ d => uptoBulk d + 1
  | .map entries => uptoBulkEntries entries + 1
  | .held _ => 1
def uptoBulkAll {H : Type} : List (DataW H) → Nat
  | [] => 0
  | d :: r => uptoBulk d + uptoBulkAll r
def uptoBulkEntries {H : Type} : List (Lit × DataW H) → Nat
  | [] => 0
  | x :: r => uptoBulkEntry x + uptoBulkEntries r
def uptoBulkEntry {H : Type} : Lit × DataW H → Nat
  | (.string bytes, d) => bytes.length + uptoBulk d + 1
  | (_, d) => uptoBulk d + 1
 end
def uptoSmall : (H : Type) → List (DataW H) → Bool := fun _ ds => decide (uptoBulkAll ds ≤ 1048576)
def OpenSpec.upto (s : _root_.Go.ChangeSpec) : _root_.Go.OpenSpec := { _root_.Go.OpenSpec.ofChange s with cond := some uptoSmall }

/-- 'palanquinlaw06.TypZero', WHERE WHAT IT READS IS OF BULK AT MOST 1048576: true; the input reads as it did. -/
def typZeroUptoRow : OpenClaim := { program := "ytcmflbjaloandaa", sum := "d8f0f1e6de24c12e55ae187cf528809accdf89c8f6367ab5d1d44b46b9ed593c", func := "palanquin/palanquinlaw06.TypZero", spec := "typZero", apart := false, narrowed := true }
def TypZeroUptoSaid : Prop := typZeroUptoRow.holds Try.pinned (OpenSpec.upto typZeroSpec)

/-- 'palanquinlaw06.TypNeeded', WHERE WHAT IT READS IS OF BULK AT MOST 1048576: true; the input reads as it did. -/
def typNeededUptoRow : OpenClaim := { program := "ytcmflbjaloandaa", sum := "d8f0f1e6de24c12e55ae187cf528809accdf89c8f6367ab5d1d44b46b9ed593c", func := "palanquin/palanquinlaw06.TypNeeded", spec := "typNeeded", apart := false, narrowed := true }
def TypNeededUptoSaid : Prop := typNeededUptoRow.holds Try.pinned (OpenSpec.upto typNeededSpec)

/-- 'palanquinlaw06.TypPlays', WHERE WHAT IT READS IS OF BULK AT MOST 1048576: true; the input reads as it did. -/
def typPlaysUptoRow : OpenClaim := { program := "ytcmflbjaloandaa", sum := "d8f0f1e6de24c12e55ae187cf528809accdf89c8f6367ab5d1d44b46b9ed593c", func := "palanquin/palanquinlaw06.TypPlays", spec := "typPlays", apart := false, narrowed := true }
def TypPlaysUptoSaid : Prop := typPlaysUptoRow.holds Try.pinned (OpenSpec.upto typPlaysSpec)

/-- 'palanquinlaw06.TypFull', WHERE WHAT IT READS IS OF BULK AT MOST 1048576: true; the input reads as it did. -/
def typFullUptoRow : OpenClaim := { program := "ytcmflbjaloandaa", sum := "d8f0f1e6de24c12e55ae187cf528809accdf89c8f6367ab5d1d44b46b9ed593c", func := "palanquin/palanquinlaw06.TypFull", spec := "typFull", apart := false, narrowed := true }
def TypFullUptoSaid : Prop := typFullUptoRow.holds Try.pinned (OpenSpec.upto typFullSpec)

end Rows
end Go.Proofs.Ytcmflbjaloandaa

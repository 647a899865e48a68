/-
  No cell of these rows narrows 'for every input' (looked for: loops, veiled, ifaces, maps, wideKeys, modest, calm, conditions, laid).
  DERIVED. THE GIVEN ROWS OF THIS SEAT. 5 by the template 'for every input the law returns true; each argument reads behind the call as it read before'; 0 by the template 'total and deterministic' (their statements: YtnmkejdepmijeaaTotals.lean).
  GIVEN WITH THE SEED: the statements are not yours to turn. If you find one false, say at which input.
  Laid BY PROGRAM, IN A SANDBOX (cutbox-rows.mjs): the forced cells as the released guide's own fill.sh prints them over the translation cf413cc7d1fc6f83… (all of the seat's roots in one cut). By AI agents, Wed Nov 11 2026. No macro, syntax, notation, axiom, sorry.
-/
import Derived.Test.YtnmkejdepmijeaaChecked
import GoSem.Claim
import GoSem.ClaimJoined
import GoSem.ClaimMapViews
import Derived.JoinedTies
import Derived.KernelRfl
namespace Go.Proofs.Ytnmkejdepmijeaa
/- THE CELL 'sum', in the pinned program and in every row, IS THE sha256 OF THE DUMP (.gsa) THAT YtnmkejdepmijeaaProg.lean LOADS. Nothing in Lean hashes anything: it is a label: what it is worth is what the hold of that sum in a sandbox is worth. -/
noncomputable def Try.pinned : Pinned := { name := "ytnmkejdepmijeaa", sum := "cf413cc7d1fc6f83164ae17c1e5375e17145512ee882f88d84c1a2068b75aea5", checked := Try.checked }
namespace Rows
def none {H : Type} : Left H := { results := [], args := [] }

/-- 'palanquinlaw07.LiveOnce': WHATEVER THE INPUT: true; the input reads as it did. -/
def liveOnceSpec : ChangeSpec := { name := "liveOnce", fn := fun _ => fun
  | [d1, d2, d3] => { results := [.lit (.bool true)], args := [d1, d2, d3] }
  | _ => none }
def liveOnceRow : OpenClaim := { program := "ytnmkejdepmijeaa", sum := "cf413cc7d1fc6f83164ae17c1e5375e17145512ee882f88d84c1a2068b75aea5", func := "palanquin/palanquinlaw07.LiveOnce", spec := "liveOnce", unfollowed := true, recurses := true, apart := false }
def LiveOnceSaid : Prop := liveOnceRow.holds Try.pinned (OpenSpec.ofChange liveOnceSpec)

/-- ITS FALSE NEIGHBOUR: 'it returns false'. Refute it at one input. -/
def liveOnceWrong : ChangeSpec := { name := "liveOnce", fn := fun _ => fun
  | [d1, d2, d3] => { results := [.lit (.bool false)], args := [d1, d2, d3] }
  | _ => none }
def LiveOnceWrongFalsely : Prop := liveOnceRow.holds Try.pinned (OpenSpec.ofChange liveOnceWrong)

/-- 'palanquinlaw07.LiveZero': WHATEVER THE INPUT: true; the input reads as it did. -/
def liveZeroSpec : ChangeSpec := { name := "liveZero", fn := fun _ => fun
  | [d1, d2] => { results := [.lit (.bool true)], args := [d1, d2] }
  | _ => none }
def liveZeroRow : OpenClaim := { program := "ytnmkejdepmijeaa", sum := "cf413cc7d1fc6f83164ae17c1e5375e17145512ee882f88d84c1a2068b75aea5", func := "palanquin/palanquinlaw07.LiveZero", spec := "liveZero", unfollowed := true, recurses := true, apart := false }
def LiveZeroSaid : Prop := liveZeroRow.holds Try.pinned (OpenSpec.ofChange liveZeroSpec)

/-- ITS FALSE NEIGHBOUR: 'it returns false'. Refute it at one input. -/
def liveZeroWrong : ChangeSpec := { name := "liveZero", fn := fun _ => fun
  | [d1, d2] => { results := [.lit (.bool false)], args := [d1, d2] }
  | _ => none }
def LiveZeroWrongFalsely : Prop := liveZeroRow.holds Try.pinned (OpenSpec.ofChange liveZeroWrong)

/-- 'palanquinlaw07.LivePlays': WHATEVER THE INPUT: true; the input reads as it did. -/
def livePlaysSpec : ChangeSpec := { name := "livePlays", fn := fun _ => fun
  | [d1, d2, d3, d4] => { results := [.lit (.bool true)], args := [d1, d2, d3, d4] }
  | _ => none }
def livePlaysRow : OpenClaim := { program := "ytnmkejdepmijeaa", sum := "cf413cc7d1fc6f83164ae17c1e5375e17145512ee882f88d84c1a2068b75aea5", func := "palanquin/palanquinlaw07.LivePlays", spec := "livePlays", unfollowed := true, recurses := true, apart := false }
def LivePlaysSaid : Prop := livePlaysRow.holds Try.pinned (OpenSpec.ofChange livePlaysSpec)

/-- ITS FALSE NEIGHBOUR: 'it returns false'. Refute it at one input. -/
def livePlaysWrong : ChangeSpec := { name := "livePlays", fn := fun _ => fun
  | [d1, d2, d3, d4] => { results := [.lit (.bool false)], args := [d1, d2, d3, d4] }
  | _ => none }
def LivePlaysWrongFalsely : Prop := livePlaysRow.holds Try.pinned (OpenSpec.ofChange livePlaysWrong)

/-- 'palanquinlaw07.LiveFull': WHATEVER THE INPUT: true; the input reads as it did. -/
def liveFullSpec : ChangeSpec := { name := "liveFull", fn := fun _ => fun
  | [d1, d2] => { results := [.lit (.bool true)], args := [d1, d2] }
  | _ => none }
def liveFullRow : OpenClaim := { program := "ytnmkejdepmijeaa", sum := "cf413cc7d1fc6f83164ae17c1e5375e17145512ee882f88d84c1a2068b75aea5", func := "palanquin/palanquinlaw07.LiveFull", spec := "liveFull", unfollowed := true, recurses := true, apart := false }
def LiveFullSaid : Prop := liveFullRow.holds Try.pinned (OpenSpec.ofChange liveFullSpec)

/-- ITS FALSE NEIGHBOUR: 'it returns false'. Refute it at one input. -/
def liveFullWrong : ChangeSpec := { name := "liveFull", fn := fun _ => fun
  | [d1, d2] => { results := [.lit (.bool false)], args := [d1, d2] }
  | _ => none }
def LiveFullWrongFalsely : Prop := liveFullRow.holds Try.pinned (OpenSpec.ofChange liveFullWrong)

/-- 'palanquinlaw07.LiveBeside': WHATEVER THE INPUT: true; the input reads as it did. -/
def liveBesideSpec : ChangeSpec := { name := "liveBeside", fn := fun _ => fun
  | [d1, d2, d3] => { results := [.lit (.bool true)], args := [d1, d2, d3] }
  | _ => none }
def liveBesideRow : OpenClaim := { program := "ytnmkejdepmijeaa", sum := "cf413cc7d1fc6f83164ae17c1e5375e17145512ee882f88d84c1a2068b75aea5", func := "palanquin/palanquinlaw07.LiveBeside", spec := "liveBeside", unfollowed := true, recurses := true, apart := false }
def LiveBesideSaid : Prop := liveBesideRow.holds Try.pinned (OpenSpec.ofChange liveBesideSpec)

/-- ITS FALSE NEIGHBOUR: 'it returns false'. Refute it at one input. -/
def liveBesideWrong : ChangeSpec := { name := "liveBeside", fn := fun _ => fun
  | [d1, d2, d3] => { results := [.lit (.bool false)], args := [d1, d2, d3] }
  | _ => none }
def LiveBesideWrongFalsely : Prop := liveBesideRow.holds Try.pinned (OpenSpec.ofChange liveBesideWrong)

/- THE SECOND FORM. 'bulk': how many values and letters a reading holds, each counted each time it is reached (what is shared counts as often as it is met; a slice's spare places count too). A statement '..UptoSaid' is the law's where the arguments, and the package variables that the reading takes, are together of bulk at most 1048576: NARROWER than '..Said'. Prove '..Said' where nothing that the law and all that it calls make is longer than what came in: it says more and counts as full. Else prove '..UptoSaid'. A law counts once. -/
mutual
def uptoBulk {H : Type} : DataW H → Nat
  | .lit (.string bytes) => bytes.length + 1
  | .lit _ => 1
  | .nil => 1
  | .ptr d => uptoBulk d + 1
  | .slice elems spare => uptoBulkAll elems + uptoBulkAll spare + 1
  | .agg parts => uptoBulkAll parts + 1
  | .iface _ d => uptoBulk d + 1
  | .map entries => uptoBulkEntries entries + 1
  | .held _ => 1
def uptoBulkAll {H : Type} : List (DataW H) → Nat
  | [] => 0
  | d :: r => uptoBulk d + uptoBulkAll r
def uptoBulkEntries {H : Type} : List (Lit × DataW H) → Nat
  | [] => 0
  | x :: r => uptoBulkEntry x + uptoBulkEntries r
def uptoBulkEntry {H : Type} : Lit × DataW H → Nat
  | (.string bytes, d) => bytes.length + uptoBulk d + 1
  | (_, d) => uptoBulk d + 1
 end
def uptoSmall : (H : Type) → List (DataW H) → Bool := fun _ ds => decide (uptoBulkAll ds ≤ 1048576)
def OpenSpec.upto (s : _root_.Go.ChangeSpec) : _root_.Go.OpenSpec := { _root_.Go.OpenSpec.ofChange s with cond := some uptoSmall }

/-- 'palanquinlaw07.LiveOnce', WHERE WHAT IT READS IS OF BULK AT MOST 1048576: true; the input reads as it did. -/
def liveOnceUptoRow : OpenClaim := { program := "ytnmkejdepmijeaa", sum := "cf413cc7d1fc6f83164ae17c1e5375e17145512ee882f88d84c1a2068b75aea5", func := "palanquin/palanquinlaw07.LiveOnce", spec := "liveOnce", unfollowed := true, recurses := true, apart := false, narrowed := true }
def LiveOnceUptoSaid : Prop := liveOnceUptoRow.holds Try.pinned (OpenSpec.upto liveOnceSpec)

/-- 'palanquinlaw07.LiveZero', WHERE WHAT IT READS IS OF BULK AT MOST 1048576: true; the input reads as it did. -/
def liveZeroUptoRow : OpenClaim := { program := "ytnmkejdepmijeaa", sum := "cf413cc7d1fc6f83164ae17c1e5375e17145512ee882f88d84c1a2068b75aea5", func := "palanquin/palanquinlaw07.LiveZero", spec := "liveZero", unfollowed := true, recurses := true, apart := false, narrowed := true }
def LiveZeroUptoSaid : Prop := liveZeroUptoRow.holds Try.pinned (OpenSpec.upto liveZeroSpec)

/-- 'palanquinlaw07.LivePlays', WHERE WHAT IT READS IS OF BULK AT MOST 1048576: true; the input reads as it did. -/
def livePlaysUptoRow : OpenClaim := { program := "ytnmkejdepmijeaa", sum := "cf413cc7d1fc6f83164ae17c1e5375e17145512ee882f88d84c1a2068b75aea5", func := "palanquin/palanquinlaw07.LivePlays", spec := "livePlays", unfollowed := true, recurses := true, apart := false, narrowed := true }
def LivePlaysUptoSaid : Prop := livePlaysUptoRow.holds Try.pinned (OpenSpec.upto livePlaysSpec)

/-- 'palanquinlaw07.LiveFull', WHERE WHAT IT READS IS OF BULK AT MOST 1048576: true; the input reads as it did. -/
def liveFullUptoRow : OpenClaim := { program := "ytnmkejdepmijeaa", sum := "cf413cc7d1fc6f83164ae17c1e5375e17145512ee882f88d84c1a2068b75aea5", func := "palanquin/palanquinlaw07.LiveFull", spec := "liveFull", unfollowed := true, recurses := true, apart := false, narrowed := true }
def LiveFullUptoSaid : Prop := liveFullUptoRow.holds Try.pinned (OpenSpec.upto liveFullSpec)

/-- 'palanquinlaw07.LiveBeside', WHERE WHAT IT READS IS OF BULK AT MOST 1048576: true; the input reads as it did. -/
def liveBesideUptoRow : OpenClaim := { program := "ytnmkejdepmijeaa", sum := "cf413cc7d1fc6f83164ae17c1e5375e17145512ee882f88d84c1a2068b75aea5", func := "palanquin/palanquinlaw07.LiveBeside", spec := "liveBeside", unfollowed := true, recurses := true, apart := false, narrowed := true }
def LiveBesideUptoSaid : Prop := liveBesideUptoRow.holds Try.pinned (OpenSpec.upto liveBesideSpec)

end Rows
end Go.Proofs.Ytnmkejdepmijeaa

/- Slices that came in; a table and the reference's beside it. -/
import Derived.Test.YtnmkejdepmijeaaRC
import Derived.Deep.RegionHeld3
import Derived.Deep.DeepMust
namespace Go.Proofs.Ytnmkejdepmijeaa.C
open Go.RowKit

/-- What the walk is told of a slice of integers that came in. -/
def RowI (k : IntKind) (w : World) (a : Option Addr) (len : Nat) (z : Nat → Int) : Prop :=
  len ≤ maxLen ∧ (0 < len → ∃ b off, a = some ⟨b, off, none⟩ ∧ ∀ i, i < len → w.cell? ⟨b, off + i, none⟩ = some (.int k (z i)) ∧ (Lit.int k (z i)).wf = true)

structure Two (w : World) (tb2 sb2 cap : Nat) (L : Nat → Id) (wr : World) : Prop where
  t : Tab wr (w.heap.size + 1) w.heap.size L
  r : RTab wr tb2 sb2 cap L
  bel : Below w.heap.size w wr
  h1 : w.heap.size + 2 ≤ tb2
  h2 : w.heap.size + 2 ≤ sb2

theorem Two.stepT {w a b : World} {tb2 sb2 cap : Nat} {L M : Nat → Id} (h : Two w tb2 sb2 cap L a) (t : Tab b (w.heap.size + 1) w.heap.size M) (g : a.grownBy b (some w.heap.size)) :
    Tab b (w.heap.size + 1) w.heap.size M ∧ RTab b tb2 sb2 cap L ∧ Below w.heap.size w b ∧ Two w tb2 sb2 cap L a ∧ a.grownBy b (some w.heap.size) := by
  have h1 := h.h1
  have h2 := h.h2
  exact ⟨t, h.r.grown g (fun e => by injection e; omega) (fun e => by injection e; omega), h.bel.grown g h.bel.size (fun k hk => by cases hk; exact Nat.le_refl _), h, g⟩
theorem Two.stepR {w a b c : World} {tb2 sb2 cap : Nat} {L M : Nat → Id} (h : Tab b (w.heap.size + 1) w.heap.size M ∧ RTab b tb2 sb2 cap L ∧ Below w.heap.size w b ∧ Two w tb2 sb2 cap L a ∧ a.grownBy b (some w.heap.size))
    (r : RTab c tb2 sb2 cap M) (g : b.grownBy c (some sb2)) : Two w tb2 sb2 cap M c := by
  have h1 := h.2.2.2.1.h1
  have h2 := h.2.2.2.1.h2
  exact ⟨h.1.grown g (fun e => by injection e; omega) (fun e => by injection e; omega), r, h.2.2.1.grown g h.2.2.1.size (fun k hk => by cases hk; omega), h1, h2⟩
theorem Two.kept {w a b : World} {tb2 sb2 cap : Nat} {L : Nat → Id} (h : Two w tb2 sb2 cap L a) (k : Kept a b) : Two w tb2 sb2 cap L b :=
  ⟨h.t.kept k, h.r.kept k, h.bel.trans (Below.mono k h.bel.size), h.h1, h.h2⟩
/-- A cell that was there before the call. -/
theorem Below.old {w wr : World} (h : Below w.heap.size w wr) {p : Addr} {v : Value} (hp : w.cell? p = some v) : wr.cell? p = some v :=
  (h.cell (World.block_lt_of_cell? w _ hp)).trans hp
end Go.Proofs.Ytnmkejdepmijeaa.C

/- Words for package live: a table of 64 ids in memory, and the contracts of its small functions. -/
import Derived.Test.YtnmkejdepmijeaaProg
import Derived.WalkKit
import Derived.WalkSpells
import Derived.WalkLawsBesides
import Derived.BigQuiet
import Derived.Deep.QuietTactic
import Derived.Lib.Hide
namespace Go.Proofs.Ytnmkejdepmijeaa.C
open Go.RowKit

/-- Behind the call: what lay before lies as it lay. -/
def Kept (w w' : World) : Prop := Below w.heap.size w w'
theorem Kept.refl (w : World) : Kept w w := Below.refl _ _
theorem Kept.trans {a b c : World} (h : Kept a b) (k : Kept b c) : Kept a c := Below.trans h (Below.mono k h.size)
theorem Kept.drewN {a w : World} (h : Kept a w) (n : Nat) : Kept a (w.drewN n) := ⟨h.os, h.tape, h.output, h.size, h.block⟩
theorem Kept.drew {a w : World} (h : Kept a w) : Kept a w.drew := ⟨h.os, h.tape, h.output, h.size, h.block⟩
theorem Kept.alloc {a w : World} (h : Kept a w) (o : Obj) : Kept a (w.alloc o) := Below.alloc h h.size o
theorem Kept.setCell {a w : World} (h : Kept a w) {p : Addr} (hp : a.heap.size ≤ p.block) (u : Value) : Kept a (w.setCell p u) := Below.setCell h hp u
theorem Kept.cell {a w : World} (h : Kept a w) {p : Addr} {v : Value} (hp : a.cell? p = some v) : w.cell? p = some v :=
  (Below.cell h (World.block_lt_of_cell? a _ hp)).trans hp
theorem Kept.frozen {a w : World} (h : Kept a w) {p : Addr} (hp : p.block < a.heap.size) : w.frozen? p = a.frozen? p := Below.frozen h hp

structure Id where
  on : Bool
  ep : Int
  kd : Bool
  tm : Int

/-- A table of package live: its struct in block tb, its 64 ids in block sb. -/
structure Tab (w : World) (tb sb : Nat) (L : Nat → Id) : Prop where
  ne : tb ≠ sb
  hd : w.cell? ⟨tb, 0, none⟩ = some (.slice (some ⟨sb, 0, none⟩) 64 64)
  c0 : ∀ i : Nat, i < 64 → w.cell? ⟨sb, i * 4, none⟩ = some (.bool (L i).on)
  c1 : ∀ i : Nat, i < 64 → w.cell? ⟨sb, i * 4 + 1, none⟩ = some (.int .i64 (L i).ep)
  c2 : ∀ i : Nat, i < 64 → w.cell? ⟨sb, i * 4 + 2, none⟩ = some (.bool (L i).kd)
  c3 : ∀ i : Nat, i < 64 → w.cell? ⟨sb, i * 4 + 3, none⟩ = some (.int .i64 (L i).tm)
  fz : ∀ o, w.frozen? ⟨sb, o, none⟩ = false

theorem Tab.lt {w : World} {tb sb : Nat} {L : Nat → Id} (h : Tab w tb sb L) : sb < w.heap.size := World.block_lt_of_cell? w _ (h.c0 0 (by omega))
theorem Tab.ltt {w : World} {tb sb : Nat} {L : Nat → Id} (h : Tab w tb sb L) : tb < w.heap.size := World.block_lt_of_cell? w _ h.hd

theorem Tab.kept {w w' : World} {tb sb : Nat} {L : Nat → Id} (h : Tab w tb sb L) (k : Kept w w') : Tab w' tb sb L :=
  ⟨h.ne, k.cell h.hd, fun i hi => k.cell (h.c0 i hi), fun i hi => k.cell (h.c1 i hi), fun i hi => k.cell (h.c2 i hi), fun i hi => k.cell (h.c3 i hi), fun o => (k.frozen h.lt).trans (h.fz o)⟩

def mayB (x : Id) (fl : Int) : Bool := !x.on && (!x.kd || decide (x.tm < fl)) && decide (x.ep < 65535)

theorem may_c (x : Id) (fl : Int) (B : Nat) (w : World) (hB : w.cell? ⟨B, 0, none⟩ = some (.int .i64 fl)) :
    Calls Try.prog 20 #[.agg #[.bool x.on, .int .i64 x.ep, .bool x.kd, .int .i64 x.tm], .pointer (some ⟨B, 0, none⟩)] w fun e w' => e = .returned (.bool (mayB x fl)) ∧ Kept w w' := by
  obtain ⟨on, ep, kd, tm⟩ := x
  have hlt := World.block_lt_of_cell? w _ hB
  have hB' : ¬ B = w.heap.size := by simp at hlt; omega
  cases on <;> cases kd <;> by_cases h1 : tm < fl <;> by_cases h2 : ep < 65535
  all_goals
    go_enter Try.func20, Try.ntmps20
    go_wp2
    go_ret
    exact ⟨by simp [mayB, h1, h2], by repeat (first | exact Kept.refl _ | assumption | apply Kept.drewN | apply Kept.drew | apply Kept.alloc | (refine Kept.setCell ?_ (by simp) _))⟩
end Go.Proofs.Ytnmkejdepmijeaa.C

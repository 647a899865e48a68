/- Three rows of the call's own beside a table: what each step leaves. -/
import Derived.Test.YtnmkejdepmijeaaQ
import Derived.Maps.AppendAt
import Derived.RangeFuncBox
namespace Go.Proofs.Ytnmkejdepmijeaa.C
open Go.RowKit

def Apart (u v : Value) : Prop := u.ownBlock = none ∨ v.ownBlock = none ∨ u.ownBlock ≠ v.ownBlock
theorem Apart.symm {u v : Value} (h : Apart u v) : Apart v u := by
  rcases h with h | h | h
  · exact .inr (.inl h)
  · exact .inl h
  · exact .inr (.inr fun e => h e.symm)

structure Rows3 (B : Nat) (wr : World) (v8 v9 v10 : Value) (n8 n9 n10 : Nat) (x8 x9 x10 : List Value) : Prop where
  o1 : wr.ownsRow B 3 1 v8 n8 x8
  o2 : wr.ownsRow B 3 1 v9 n9 x9
  o3 : wr.ownsRow B 4 1 v10 n10 x10
  d12 : Apart v8 v9
  d13 : Apart v8 v10
  d23 : Apart v9 v10

section
variable {B : Nat} {wr w1 : World} {v8 v9 v10 : Value} {n8 n9 n10 : Nat} {x8 x9 x10 : List Value}

theorem Rows3.grown (h : Rows3 B wr v8 v9 v10 n8 n9 n10 x8 x9 x10) {row : Option Nat} (g : wr.grownBy w1 row) (hr : ∀ k, row = some k → k < B) : Rows3 B w1 v8 v9 v10 n8 n9 n10 x8 x9 x10 := by
  have ne : ∀ {e s n x} {v : Value}, wr.ownsRow B e s v n x → (v.ownBlock = none ∨ v.ownBlock ≠ row) := by
    intro e s n x v ho
    cases hv : v.ownBlock with
    | none => exact .inl rfl
    | some k =>
      right
      intro er
      have := (ho.lt k hv).1
      have := hr k er.symm
      omega
  exact ⟨h.o1.kept g (ne h.o1), h.o2.kept g (ne h.o2), h.o3.kept g (ne h.o3), h.d12, h.d13, h.d23⟩
theorem Rows3.kept (h : Rows3 B wr v8 v9 v10 n8 n9 n10 x8 x9 x10) (k : Kept wr w1) : Rows3 B w1 v8 v9 v10 n8 n9 n10 x8 x9 x10 :=
  h.grown (grownBy_kept k none) (fun _ e => by cases e)

theorem apart_kept {e s n : Nat} {x : List Value} {u v : Value} (ho : wr.ownsRow B e s v n x) (d : Apart u v) (g : wr.grownBy w1 u.ownBlock) : w1.ownsRow B e s v n x := by
  refine ho.kept g ?_
  rcases d with d | d | d
  · cases hv : v.ownBlock with
    | none => exact .inl rfl
    | some k => right; rw [d]; simp
  · exact .inl d
  · exact .inr fun e => d e.symm
theorem apart_new {e s n : Nat} {x : List Value} {u u' v : Value} (ho : wr.ownsRow B e s v n x) (d : Apart u v) (hl : u'.ownBlock = u.ownBlock ∨ u'.ownBlock = some wr.heap.size) : Apart u' v := by
  rcases hl with hl | hl
  · unfold Apart; rw [hl]; exact d
  · cases hv : v.ownBlock with
    | none => exact .inr (.inl hv)
    | some k =>
      right; right
      rw [hl, hv]
      intro e
      injection e with e
      have := (ho.lt k hv).2
      omega
theorem Rows3.app1 {v8' : Value} {n' : Nat} {x' : List Value} (h : Rows3 B wr v8 v9 v10 n8 n9 n10 x8 x9 x10) (ho : w1.ownsRow B 3 1 v8' n' x') (g : wr.grownBy w1 v8.ownBlock) (hl : v8'.ownBlock = v8.ownBlock ∨ v8'.ownBlock = some wr.heap.size) :
    Rows3 B w1 v8' v9 v10 n' n9 n10 x' x9 x10 :=
  ⟨ho, apart_kept h.o2 h.d12 g, apart_kept h.o3 h.d13 g, apart_new h.o2 h.d12 hl, apart_new h.o3 h.d13 hl, h.d23⟩
theorem Rows3.app2 {v9' : Value} {n' : Nat} {x' : List Value} (h : Rows3 B wr v8 v9 v10 n8 n9 n10 x8 x9 x10) (ho : w1.ownsRow B 3 1 v9' n' x') (g : wr.grownBy w1 v9.ownBlock) (hl : v9'.ownBlock = v9.ownBlock ∨ v9'.ownBlock = some wr.heap.size) :
    Rows3 B w1 v8 v9' v10 n8 n' n10 x8 x' x10 :=
  ⟨apart_kept h.o1 h.d12.symm g, ho, apart_kept h.o3 h.d23 g, (apart_new h.o1 h.d12.symm hl).symm, h.d13, apart_new h.o3 h.d23 hl⟩
theorem Rows3.app3 {v10' : Value} {n' : Nat} {x' : List Value} (h : Rows3 B wr v8 v9 v10 n8 n9 n10 x8 x9 x10) (ho : w1.ownsRow B 4 1 v10' n' x') (g : wr.grownBy w1 v10.ownBlock) (hl : v10'.ownBlock = v10.ownBlock ∨ v10'.ownBlock = some wr.heap.size) :
    Rows3 B w1 v8 v9 v10' n8 n9 n' x8 x9 x' :=
  ⟨apart_kept h.o1 h.d13.symm g, apart_kept h.o2 h.d23.symm g, ho, h.d12, (apart_new h.o1 h.d13.symm hl).symm, (apart_new h.o2 h.d23.symm hl).symm⟩
theorem Rows3.set3 {g cap : Nat} (h : Rows3 B wr v8 v9 (.slice (some ⟨g, 0, none⟩) n10 cap) n8 n9 n10 x8 x9 x10) (j : Nat) (u : Value) :
    Rows3 B (wr.setCell ⟨g, j, none⟩ u) v8 v9 (.slice (some ⟨g, 0, none⟩) n10 cap) n8 n9 n10 x8 x9 (x10.set j u) := by
  have ne : ∀ {v : Value}, Apart v (.slice (some ⟨g, 0, none⟩) n10 cap) → v.ownBlock ≠ some (⟨g, j, none⟩ : Addr).block := by
    intro v d e
    rcases d with d | d | d
    · rw [d] at e; cases e
    · simp [Value.ownBlock] at d
    · exact d e
  exact ⟨ownsRow_setCell_other h.o1 (ne h.d13) u, ownsRow_setCell_other h.o2 (ne h.d23) u, (h.o3.stored j u).1, h.d12, h.d13, h.d23⟩
end

def idsOf (H : List Ent) : List Value := H.map fun e => .int .i64 (e.id : Int)
def epsOf (H : List Ent) : List Value := H.map fun e => .int .i64 e.ep
def ddsOf (H : List Ent) : List Value := H.map fun e => .bool e.dd

structure Once (w : World) (L : Nat → Id) (H : List Ent) (v8 v9 v10 : Value) (wr : World) : Prop where
  t : Tab wr (w.heap.size + 1) w.heap.size L
  bel : Below w.heap.size w wr
  sz : w.heap.size + 2 ≤ wr.heap.size
  rows : Rows3 (w.heap.size + 2) wr v8 v9 v10 H.length H.length H.length (idsOf H) (epsOf H) (ddsOf H)
  inv : InvO L H

theorem Once.kept {w a b : World} {L : Nat → Id} {H : List Ent} {v8 v9 v10 : Value} (h : Once w L H v8 v9 v10 a) (k : Kept a b) : Once w L H v8 v9 v10 b :=
  ⟨h.t.kept k, h.bel.trans (Below.mono k h.bel.size), Nat.le_trans h.sz k.size, h.rows.kept k, h.inv⟩
end Go.Proofs.Ytnmkejdepmijeaa.C

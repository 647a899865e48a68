/- A table of frames in memory: the program's and the reference's lie alike. -/
import Derived.Test.YtcjadneamacilaaB
namespace Go.Proofs.Ytcjadneamacilaa.C
open Go.RowKit

structure Fm where
  ty : Int
  ct : Int
  fr : Int
  wa : Int

structure Tb (w : World) (tb sb n cap : Nat) (L : Nat → Fm) : Prop where
  ne : tb ≠ sb
  pos : 0 < n
  le : n ≤ 64
  hd : w.cell? ⟨tb, 0, none⟩ = some (.slice (some ⟨sb, 0, none⟩) n cap)
  c0 : ∀ i : Nat, i < n → w.cell? ⟨sb, i * 4, none⟩ = some (.int .i64 (L i).ty)
  c1 : ∀ i : Nat, i < n → w.cell? ⟨sb, i * 4 + 1, none⟩ = some (.int .i64 (L i).ct)
  c2 : ∀ i : Nat, i < n → w.cell? ⟨sb, i * 4 + 2, none⟩ = some (.int .i64 (L i).fr)
  c3 : ∀ i : Nat, i < n → w.cell? ⟨sb, i * 4 + 3, none⟩ = some (.int .i64 (L i).wa)
  lo : ∀ i : Nat, i < n → 0 ≤ (L i).ct
  hi : ∀ i : Nat, i < n → (L i).ct ≤ 1000
  fz : ∀ o, w.frozen? ⟨sb, o, none⟩ = false

section
variable {w w' : World} {tb sb n cap : Nat} {L : Nat → Fm}
theorem Tb.lt (h : Tb w tb sb n cap L) : sb < w.heap.size := World.block_lt_of_cell? w _ (h.c0 0 h.pos)
theorem Tb.ltt (h : Tb w tb sb n cap L) : tb < w.heap.size := World.block_lt_of_cell? w _ h.hd
theorem Tb.kept (h : Tb w tb sb n cap L) (k : Kept w w') : Tb w' tb sb n cap L :=
  ⟨h.ne, h.pos, h.le, k.cell h.hd, fun i hi => k.cell (h.c0 i hi), fun i hi => k.cell (h.c1 i hi), fun i hi => k.cell (h.c2 i hi), fun i hi => k.cell (h.c3 i hi), h.lo, h.hi, fun o => (k.frozen h.lt).trans (h.fz o)⟩
theorem Tb.grown (h : Tb w tb sb n cap L) {row : Option Nat} (g : w.grownBy w' row) (h1 : row ≠ some tb) (h2 : row ≠ some sb) : Tb w' tb sb n cap L :=
  ⟨h.ne, h.pos, h.le, g.cell h.hd (fun e => h1 e.symm), fun i hi => g.cell (h.c0 i hi) (fun e => h2 e.symm), fun i hi => g.cell (h.c1 i hi) (fun e => h2 e.symm), fun i hi => g.cell (h.c2 i hi) (fun e => h2 e.symm), fun i hi => g.cell (h.c3 i hi) (fun e => h2 e.symm), h.lo, h.hi,
    fun o => (World.frozen?_of_block (a := ⟨sb, o, none⟩) (g.block sb h.lt (fun e => h2 e.symm))).trans (h.fz o)⟩

def upd (L : Nat → Fm) (i : Nat) (x : Fm) : Nat → Fm := fun j => if j = i then x else L j
theorem upd_at (L : Nat → Fm) (i : Nat) (x : Fm) : upd L i x i = x := by simp [upd]
theorem upd_upd (L : Nat → Fm) (i : Nat) (x y : Fm) : upd (upd L i x) i y = upd L i y := by
  funext j
  by_cases e : j = i
  · simp [upd, e]
  · simp [upd, e]

theorem Tb.set0 (h : Tb w tb sb n cap L) (k : Nat) (hk : k < n) (v : Int) : Tb (w.setCell ⟨sb, k * 4, none⟩ (.int .i64 v)) tb sb n cap (upd L k { L k with ty := v }) := by
  refine ⟨h.ne, h.pos, h.le, ?_, ?_, ?_, ?_, ?_, ?_, ?_, ?_⟩
  · rw [World.cell?_setCell_other _ _ _ _ (addr_ne (.inl h.ne.symm))]; exact h.hd
  · intro i hi
    by_cases e : i = k
    · subst e
      rw [World.cell?_setCell_same _ _ _ (h.c0 i hi)]; simp [upd]
    · rw [World.cell?_setCell_other _ _ _ _ (addr_ne (.inr (by omega)))]; simp [upd, e, h.c0 i hi]
  · intro i hi
    rw [World.cell?_setCell_other _ _ _ _ (addr_ne (.inr (by omega))), h.c1 i hi]
    by_cases e : i = k
    · subst e; simp [upd]
    · simp [upd, e]
  · intro i hi
    rw [World.cell?_setCell_other _ _ _ _ (addr_ne (.inr (by omega))), h.c2 i hi]
    by_cases e : i = k
    · subst e; simp [upd]
    · simp [upd, e]
  · intro i hi
    rw [World.cell?_setCell_other _ _ _ _ (addr_ne (.inr (by omega))), h.c3 i hi]
    by_cases e : i = k
    · subst e; simp [upd]
    · simp [upd, e]
  · intro i hi
    by_cases e : i = k
    · subst e; simp [upd]; exact h.lo i hi
    · simp [upd, e]; exact h.lo i hi
  · intro i hi
    by_cases e : i = k
    · subst e; simp [upd]; exact h.hi i hi
    · simp [upd, e]; exact h.hi i hi
  · intro o; rw [World.frozen?_setCell]; exact h.fz o

theorem Tb.set1 (h : Tb w tb sb n cap L) (k : Nat) (hk : k < n) (v : Int) (h0 : 0 ≤ v) (h1 : v ≤ 1000) : Tb (w.setCell ⟨sb, k * 4 + 1, none⟩ (.int .i64 v)) tb sb n cap (upd L k { L k with ct := v }) := by
  refine ⟨h.ne, h.pos, h.le, ?_, ?_, ?_, ?_, ?_, ?_, ?_, ?_⟩
  · rw [World.cell?_setCell_other _ _ _ _ (addr_ne (.inl h.ne.symm))]; exact h.hd
  · intro i hi
    rw [World.cell?_setCell_other _ _ _ _ (addr_ne (.inr (by omega))), h.c0 i hi]
    by_cases e : i = k
    · subst e; simp [upd]
    · simp [upd, e]
  · intro i hi
    by_cases e : i = k
    · subst e
      rw [World.cell?_setCell_same _ _ _ (h.c1 i hi)]; simp [upd]
    · rw [World.cell?_setCell_other _ _ _ _ (addr_ne (.inr (by omega)))]; simp [upd, e, h.c1 i hi]
  · intro i hi
    rw [World.cell?_setCell_other _ _ _ _ (addr_ne (.inr (by omega))), h.c2 i hi]
    by_cases e : i = k
    · subst e; simp [upd]
    · simp [upd, e]
  · intro i hi
    rw [World.cell?_setCell_other _ _ _ _ (addr_ne (.inr (by omega))), h.c3 i hi]
    by_cases e : i = k
    · subst e; simp [upd]
    · simp [upd, e]
  · intro i hi
    by_cases e : i = k
    · subst e; simp [upd]; exact h0
    · simp [upd, e]; exact h.lo i hi
  · intro i hi
    by_cases e : i = k
    · subst e; simp [upd]; exact h1
    · simp [upd, e]; exact h.hi i hi
  · intro o; rw [World.frozen?_setCell]; exact h.fz o

theorem Tb.set2 (h : Tb w tb sb n cap L) (k : Nat) (hk : k < n) (v : Int) : Tb (w.setCell ⟨sb, k * 4 + 2, none⟩ (.int .i64 v)) tb sb n cap (upd L k { L k with fr := v }) := by
  refine ⟨h.ne, h.pos, h.le, ?_, ?_, ?_, ?_, ?_, ?_, ?_, ?_⟩
  · rw [World.cell?_setCell_other _ _ _ _ (addr_ne (.inl h.ne.symm))]; exact h.hd
  · intro i hi
    rw [World.cell?_setCell_other _ _ _ _ (addr_ne (.inr (by omega))), h.c0 i hi]
    by_cases e : i = k
    · subst e; simp [upd]
    · simp [upd, e]
  · intro i hi
    rw [World.cell?_setCell_other _ _ _ _ (addr_ne (.inr (by omega))), h.c1 i hi]
    by_cases e : i = k
    · subst e; simp [upd]
    · simp [upd, e]
  · intro i hi
    by_cases e : i = k
    · subst e
      rw [World.cell?_setCell_same _ _ _ (h.c2 i hi)]; simp [upd]
    · rw [World.cell?_setCell_other _ _ _ _ (addr_ne (.inr (by omega)))]; simp [upd, e, h.c2 i hi]
  · intro i hi
    rw [World.cell?_setCell_other _ _ _ _ (addr_ne (.inr (by omega))), h.c3 i hi]
    by_cases e : i = k
    · subst e; simp [upd]
    · simp [upd, e]
  · intro i hi
    by_cases e : i = k
    · subst e; simp [upd]; exact h.lo i hi
    · simp [upd, e]; exact h.lo i hi
  · intro i hi
    by_cases e : i = k
    · subst e; simp [upd]; exact h.hi i hi
    · simp [upd, e]; exact h.hi i hi
  · intro o; rw [World.frozen?_setCell]; exact h.fz o

theorem Tb.set3 (h : Tb w tb sb n cap L) (k : Nat) (hk : k < n) (v : Int) : Tb (w.setCell ⟨sb, k * 4 + 3, none⟩ (.int .i64 v)) tb sb n cap (upd L k { L k with wa := v }) := by
  refine ⟨h.ne, h.pos, h.le, ?_, ?_, ?_, ?_, ?_, ?_, ?_, ?_⟩
  · rw [World.cell?_setCell_other _ _ _ _ (addr_ne (.inl h.ne.symm))]; exact h.hd
  · intro i hi
    rw [World.cell?_setCell_other _ _ _ _ (addr_ne (.inr (by omega))), h.c0 i hi]
    by_cases e : i = k
    · subst e; simp [upd]
    · simp [upd, e]
  · intro i hi
    rw [World.cell?_setCell_other _ _ _ _ (addr_ne (.inr (by omega))), h.c1 i hi]
    by_cases e : i = k
    · subst e; simp [upd]
    · simp [upd, e]
  · intro i hi
    rw [World.cell?_setCell_other _ _ _ _ (addr_ne (.inr (by omega))), h.c2 i hi]
    by_cases e : i = k
    · subst e; simp [upd]
    · simp [upd, e]
  · intro i hi
    by_cases e : i = k
    · subst e
      rw [World.cell?_setCell_same _ _ _ (h.c3 i hi)]; simp [upd]
    · rw [World.cell?_setCell_other _ _ _ _ (addr_ne (.inr (by omega)))]; simp [upd, e, h.c3 i hi]
  · intro i hi
    by_cases e : i = k
    · subst e; simp [upd]; exact h.lo i hi
    · simp [upd, e]; exact h.lo i hi
  · intro i hi
    by_cases e : i = k
    · subst e; simp [upd]; exact h.hi i hi
    · simp [upd, e]; exact h.hi i hi
  · intro o; rw [World.frozen?_setCell]; exact h.fz o
end
def inR (n : Nat) (f : Int) : Bool := decide (0 ≤ f ∧ f < n)
def fresh : Fm := ⟨0, 0, -1, 0⟩
def getF (n : Nat) (L : Nat → Fm) (f : Int) : Fm := if 0 ≤ f ∧ f < n then L f.toNat else fresh
def rtOk (x : Fm) (to : Int) (q : Bool) : Int := if to ≠ 1 ∧ to ≠ 2 then 1 else if x.ty ≠ 0 then 4 else if q then 0 else 6
def rtE (n : Nat) (L : Nat → Fm) (f to : Int) (q : Bool) : Int := if 0 ≤ f ∧ f < n then rtOk (L f.toNat) to q else 1
def rtL (n : Nat) (L : Nat → Fm) (f to : Int) (q : Bool) : Nat → Fm := if rtE n L f to q = 0 then upd L f.toNat { L f.toNat with ty := to } else L
def utE (n : Nat) (L : Nat → Fm) (f : Int) : Int := if 0 ≤ f ∧ f < n then (if (L f.toNat).ty = 0 then 4 else if (L f.toNat).ct ≠ 0 then 10 else 0) else 1
def utL (n : Nat) (L : Nat → Fm) (f now : Int) (p : Bool) : Nat → Fm :=
  if utE n L f = 0 then upd L f.toNat ⟨0, (L f.toNat).ct, max (L f.toNat).fr now, if p = true ∧ (L f.toNat).ty = 2 then 3 else (L f.toNat).ty⟩ else L
def rfE (n : Nat) (L : Nat → Fm) (f : Int) : Int := if 0 ≤ f ∧ f < n then (if (L f.toNat).ty = 0 then 4 else if 1000 ≤ (L f.toNat).ct then 2 else 0) else 1
def rfL (n : Nat) (L : Nat → Fm) (f : Int) : Nat → Fm := if rfE n L f = 0 then upd L f.toNat { L f.toNat with ct := (L f.toNat).ct + 1 } else L
def urE (n : Nat) (L : Nat → Fm) (f : Int) : Int := if 0 ≤ f ∧ f < n then (if (L f.toNat).ct = 0 then 3 else 0) else 1
def urL (n : Nat) (L : Nat → Fm) (f now : Int) : Nat → Fm :=
  if urE n L f = 0 then upd L f.toNat { L f.toNat with ct := (L f.toNat).ct - 1, fr := if (L f.toNat).ct = 1 then max (L f.toNat).fr now else (L f.toNat).fr } else L
end Go.Proofs.Ytcjadneamacilaa.C

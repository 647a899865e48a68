/- Lines of package hw: a map in a struct behind a pointer; the contracts of its methods. -/
import Derived.Test.YthoklnnnnkfhcaaB
namespace Go.Proofs.Ythoklnnnnkfhcaa.C
open Go.RowKit Go.Maps

theorem law3 : Keyed Try.prog 3 := int_keyed Try.underlying3
theorem zero3 (w : World) : (zeroValue 3).run Try.prog w = .ok (.int .i64 0) w := by kernel_rfl
abbrev kl (i : Int) : Lit := .int .i64 i
abbrev zd : DataW Unit := .lit (.int .i64 0)

structure Lns (w : World) (lb mb n : Nat) (M : Nat → Option Int) : Prop where
  hd : w.cell? ⟨lb, 0, none⟩ = some (.map (some mb))
  mp : ∃ D : DataW Unit, w.ownsMap Try.prog 3 (plainElem Try.prog 3) mb n D ∧ ∀ i : Nat, i < 8 → Maps.has D (kl i) = (M i).isSome ∧ ∀ f, M i = some f → D.atKey (kl i) zd = .lit (.int .i64 f)

theorem wf_small (i : Int) (h0 : 0 ≤ i) (h1 : i < 1000) : (Lit.int .i64 i).wf = true := by
  simp [Lit.wf, IntKind.min, IntKind.max, IntKind.signed, IntKind.bits]; omega

theorem Lns.lt {w : World} {lb mb n : Nat} {M : Nat → Option Int} (h : Lns w lb mb n M) : lb < w.heap.size := World.block_lt_of_cell? w _ h.hd
theorem Lns.ltm {w : World} {lb mb n : Nat} {M : Nat → Option Int} (h : Lns w lb mb n M) : mb < w.heap.size := by obtain ⟨D, ho, _⟩ := h.mp; exact ho.lt
theorem Lns.ne {w : World} {lb mb n : Nat} {M : Nat → Option Int} (h : Lns w lb mb n M) : lb ≠ mb := by
  intro e
  obtain ⟨D, ⟨es, cl, hb, _⟩, _⟩ := h.mp
  have := h.hd
  rw [e] at this
  simp [World.cell?, hb] at this
theorem Lns.kept {w w' : World} {lb mb n : Nat} {M : Nat → Option Int} (h : Lns w lb mb n M) (k : Kept w w') : Lns w' lb mb n M := by
  obtain ⟨D, ho, hd⟩ := h.mp
  exact ⟨k.cell h.hd, D, ho.kept (grownBy_kept k none) (by simp), hd⟩
theorem Lns.grown {w w' : World} {lb mb n : Nat} {M : Nat → Option Int} (h : Lns w lb mb n M) {row : Option Nat} (g : w.grownBy w' row) (h1 : row ≠ some lb) (h2 : row ≠ some mb) : Lns w' lb mb n M := by
  obtain ⟨D, ho, hd⟩ := h.mp
  exact ⟨g.cell h.hd (fun e => h1 e.symm), D, ho.kept g (fun e => h2 e.symm), hd⟩

def updM (M : Nat → Option Int) (i : Nat) (x : Option Int) : Nat → Option Int := fun j => if j = i then x else M j

theorem kl_ne {i j : Nat} (h : i ≠ j) : kl (i : Int) ≠ kl (j : Int) := by
  intro e; injection e with _ e; omega

theorem Lns.put {w w' : World} {lb mb n : Nat} {M : Nat → Option Int} (h : Lns w lb mb n M) {D : DataW Unit} (ho : w.ownsMap Try.prog 3 (plainElem Try.prog 3) mb n D)
    (hd : ∀ i : Nat, i < 8 → Maps.has D (kl i) = (M i).isSome ∧ ∀ f, M i = some f → D.atKey (kl i) zd = .lit (.int .i64 f)) (k : Nat) (hk : k < 8) (f : Int)
    (ho' : w'.ownsMap Try.prog 3 (plainElem Try.prog 3) mb (n + 1) (D.put (kl k) (.lit (.int .i64 f)))) (g : w.grownBy w' (some mb)) : Lns w' lb mb (n + 1) (updM M k (some f)) := by
  refine ⟨g.cell h.hd (fun e => h.ne (by injection e)), _, ho', fun i hi => ?_⟩
  have hkey : WideAt.IsKeyLit (kl (k : Int)) := law3.key (keyOf_int_mk Try.underlying3 (wf_small k (by omega) (by omega)))
  by_cases e : i = k
  · subst e
    refine ⟨by rw [has_put_same ho.isMap hkey]; simp [updM], fun f' hf => ?_⟩
    rw [atKey_put_same ho.isMap hkey]
    simp [updM] at hf; rw [hf]
  · refine ⟨by rw [has_put_other (kl_ne e)]; simp [updM, e]; exact (hd i hi).1, fun f' hf => ?_⟩
    rw [atKey_put_other (kl_ne e)]
    simp [updM, e] at hf
    exact (hd i hi).2 f' hf
theorem Lns.del {w w' : World} {lb mb n : Nat} {M : Nat → Option Int} (h : Lns w lb mb n M) {D : DataW Unit}
    (hd : ∀ i : Nat, i < 8 → Maps.has D (kl i) = (M i).isSome ∧ ∀ f, M i = some f → D.atKey (kl i) zd = .lit (.int .i64 f)) (k : Nat)
    (ho' : w'.ownsMap Try.prog 3 (plainElem Try.prog 3) mb n (D.del (kl k))) (g : w.grownBy w' (some mb)) : Lns w' lb mb n (updM M k none) := by
  refine ⟨g.cell h.hd (fun e => h.ne (by injection e)), _, ho', fun i hi => ?_⟩
  by_cases e : i = k
  · subst e
    refine ⟨by rw [has_del_same]; simp [updM], fun f' hf => ?_⟩
    simp [updM] at hf
  · refine ⟨by rw [has_del_other (kl_ne e)]; simp [updM, e]; exact (hd i hi).1, fun f' hf => ?_⟩
    rw [atKey_del_other (kl_ne e)]
    simp [updM, e] at hf
    exact (hd i hi).2 f' hf
end Go.Proofs.Ythoklnnnnkfhcaa.C

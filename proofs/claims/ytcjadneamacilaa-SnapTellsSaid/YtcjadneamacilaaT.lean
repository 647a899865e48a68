/- A snap that comes in as an argument, opened. -/
import Derived.Test.YtcjadneamacilaaG
import Derived.OpenShut
import Derived.Deep.Matrix
import Derived.Deep.Fields
namespace Go.Proofs.Ytcjadneamacilaa.C
open Go.ChangeShapes Go.WideShapes Go.RowKit Go.Deep

section
variable {H : Type} {enc : TypeId × Value → H} {W : World}

theorem row_of {n : Nat} {t e : TypeId} {k : IntKind} {c : Value} {x : DataW H × List MemPlace} (ht : Try.prog.underlying t = some (.slice e)) (he : Try.prog.underlying e = some (.int k)) (hc : Try.prog.cellsOf e = 1)
    (h : DataW.trod enc Try.prog W 0 (fun _ => true) true n t [c] = some x) :
    ∃ a len cap z, c = .slice a len cap ∧ RowI k W a len z ∧ len ≤ cap ∧ cap ≤ maxLen := by
  rcases open_ints ht he hc h with ⟨hcs, _⟩ | ⟨a, len, cap, zs, hcs, _, hl, hm, hz, _, hcell, hwz⟩
  · exact ⟨none, 0, 0, fun _ => 0, by simpa using hcs, ⟨Nat.zero_le _, fun h => absurd h (by omega)⟩, Nat.le_refl _, by simp [maxLen]⟩
  · simp only [if_true] at hz
    refine ⟨some a, len, cap, fun i => zs.getD i 0, by simpa using hcs, ⟨Nat.le_trans hl hm, fun hp => ?_⟩, hl, hm⟩
    obtain ⟨b, off, rfl, hc'⟩ := ints_at hcell (by omega)
    refine ⟨b, off, rfl, fun i hi => ⟨hc' i (by omega), ?_⟩⟩
    have hlt : i < zs.length := by omega
    show (Lit.int k (zs.getD i 0)).wf = true
    rw [List.getD_eq_getElem?_getD, List.getElem?_eq_getElem hlt]
    exact hwz _ (List.getElem_mem hlt)

theorem rows_of {n : Nat} {c : Value} {x : DataW H × List MemPlace} (h : DataW.trod enc Try.prog W 0 (fun _ => true) true n 54 [c] = some x) :
    ∃ (aw : Option Addr) (nw cw : Nat) (A : Nat → Option Addr) (L K : Nat → Nat) (Z : Nat → Nat → Int), c = .slice aw nw cw ∧ (nw ≤ cw ∧ cw ≤ maxLen) ∧
      (0 < nw → ∃ b off, aw = some ⟨b, off, none⟩ ∧ ∀ i, i < nw → W.cell? ⟨b, off + i, none⟩ = some (.slice (A i) (L i) (K i))) ∧
      (∀ i, i < nw → RowI .u64 W (A i) (L i) (Z i) ∧ L i ≤ K i ∧ K i ≤ maxLen) := by
  rcases open_int_rows (k := .u64) Try.underlying54 Try.underlying23 Try.underlying37 (by kernel_rfl) (by kernel_rfl) h with ⟨hcs, _⟩ | ⟨a, len, cap, A, L, C, Z, hcs, _, hl, hm, _, hr⟩
  · exact ⟨none, 0, 0, fun _ => none, fun _ => 0, fun _ => 0, fun _ _ => 0, by simpa using hcs, ⟨Nat.le_refl _, by simp [maxLen]⟩, fun h => absurd h (by omega), fun i hi => absurd hi (by omega)⟩
  · refine ⟨some a, len, cap, A, L, C, fun r i => (Z r).getD i 0, by simpa using hcs, ⟨hl, hm⟩, fun hp => ?_, fun i hi => ?_⟩
    · obtain ⟨b, off, spot⟩ := a
      have hspot : spot = none := by simpa [Addr.add] using World.cell?_spot (hr 0 (by omega)).1
      subst hspot
      exact ⟨b, off, rfl, fun i hi => by rw [← Go.WideShapes.add_plain]; exact (hr i (by omega)).1⟩
    · obtain ⟨_, h1, h2, h3, h4, h5, h6⟩ := hr i (by omega)
      refine ⟨⟨Nat.le_trans h1 h2, fun hp => ?_⟩, h1, h2⟩
      cases hA : A i with
      | none => have := h5 hA; omega
      | some a' =>
        obtain ⟨_, hc⟩ := h6 a' hA
        obtain ⟨b, off, rfl, hc'⟩ := ints_at (zs := Z i) (by rw [h3]; exact hc) (by omega)
        refine ⟨b, off, rfl, fun j hj => ⟨hc' j (by omega), ?_⟩⟩
        have hlt : j < (Z i).length := by omega
        show (Lit.int .u64 ((Z i).getD j 0)).wf = true
        rw [List.getD_eq_getElem?_getD, List.getElem?_eq_getElem hlt]
        exact h4 _ (List.getElem_mem hlt)

/-- A field of one cell, out of a struct's cells. -/
theorem field1 {fs : Array Field} {cs : List Value} {xs : List (DataW H × List MemPlace)} {n : Nat} (hone : ∀ (i : Nat) (f : Field), fs[i]? = some f → f.offset = i ∧ Try.prog.cellsOf f.type = 1)
    (hg : ∀ (i : Nat) (f : Field), fs[i]? = some f → DataW.trod enc Try.prog W 0 (fun _ => true) true n f.type ((cs.drop f.offset).take (Try.prog.cellsOf f.type)) = xs[i]?)
    (i : Nat) (f : Field) (ty : TypeId) (c : Value) (hf : fs[i]? = some f) (hty : f.type = ty) (hc : cs[i]? = some c) : DataW.trod enc Try.prog W 0 (fun _ => true) true n ty [c] = xs[i]? := by
  have h := hg i f hf
  obtain ⟨h1, h2⟩ := hone i f hf
  have hlt := (List.getElem?_eq_some_iff.1 hc).1
  rw [h1, h2, List.drop_eq_getElem_cons hlt, (List.getElem?_eq_some_iff.1 hc).2, hty] at h
  exact h

set_option maxRecDepth 100000 in
theorem open_snap {base : Nat} {v : Value} {d : DataW H} {p : List MemPlace} (hv : Value.okWide Try.prog W .any base 56 v) (h : DataW.Trod enc Try.prog W 0 (fun _ => true) true 56 v d p) :
    ∃ (q : Pl) (s : Sn), v = sval q s ∧ Snp W q s := by
  obtain ⟨cs, rfl, hsz⟩ := okWide_struct Try.underlying56 hv
  have hC : Try.prog.cellsOf 56 = 5 := by kernel_rfl
  have c3 : Try.prog.cellsOf 3 = 1 := by kernel_rfl
  have c54 : Try.prog.cellsOf 54 = 1 := by kernel_rfl
  have c22 : Try.prog.cellsOf 22 = 1 := by kernel_rfl
  obtain ⟨l⟩ := cs
  match l, hsz.trans hC with
  | [v0, v1, v2, v3, v4], _ =>
    obtain ⟨fuel, hf⟩ := h
    obtain ⟨xs, n, _, _, _, hlen, hg⟩ := DataW.trod_struct Try.underlying56 hf
    have hl5 : xs.length = 5 := hlen
    have g0 := field1 (hone_of (by kernel_rfl)) hg 0 _ 3 v0 rfl rfl rfl
    have g1 := field1 (hone_of (by kernel_rfl)) hg 1 _ 3 v1 rfl rfl rfl
    have g2 := field1 (hone_of (by kernel_rfl)) hg 2 _ 54 v2 rfl rfl rfl
    have g3 := field1 (hone_of (by kernel_rfl)) hg 3 _ 22 v3 rfl rfl rfl
    have g4 := field1 (hone_of (by kernel_rfl)) hg 4 _ 22 v4 rfl rfl rfl
    rw [List.getElem?_eq_getElem (by omega)] at g0 g1 g2 g3 g4
    obtain ⟨n0, e0, _, w0⟩ := DataW.trod_int Try.underlying3 g0
    obtain ⟨n1, e1, _, w1⟩ := DataW.trod_int Try.underlying3 g1
    obtain ⟨aw, nw, cw, A, L, K, Z, rfl, hcw, hwr, hrows⟩ := rows_of g2
    obtain ⟨at', nt, ct, T, rfl, ht1, ht2, ht3⟩ := row_of Try.underlying22 Try.underlying3 c3 g3
    obtain ⟨ac, nc, cc, C, rfl, hc1, hc2, hc3⟩ := row_of Try.underlying22 Try.underlying3 c3 g4
    obtain rfl : v0 = .int .i64 n0 := by simpa using e0
    obtain rfl : v1 = .int .i64 n1 := by simpa using e1
    exact ⟨⟨aw, cw, A, K, at', ct, ac, cc⟩, ⟨n0, n1, nw, L, Z, nt, T, nc, C⟩, rfl, ⟨w0, w1, hcw, hwr, hrows, ⟨ht1, ht2, ht3⟩, ⟨hc1, hc2, hc3⟩⟩⟩
end
end Go.Proofs.Ytcjadneamacilaa.C

/- No difference, the same: what the list of the frames that differ says. -/
import Derived.Test.YtcjadneamacilaaR
import Derived.Test.YtcjadneamacilaaL
namespace Go.Proofs.Ytcjadneamacilaa.C
open Go.RowKit

theorem dl_mem (s t : Sn) (n : Nat) (x : Int) : x ∈ dl s t n ↔ ∃ j, j < n ∧ apartAt s t j = true ∧ x = s.fr + (j : Int) := by
  simp only [dl, List.mem_map, List.mem_filter, List.mem_range]
  constructor
  · rintro ⟨j, ⟨h1, h2⟩, rfl⟩; exact ⟨j, h1, h2, rfl⟩
  · rintro ⟨j, h1, h2, rfl⟩; exact ⟨j, ⟨h1, h2⟩, rfl⟩

theorem dl_at (s t : Sn) (n k : Nat) (hk : k < (dl s t n).length) : ∃ j, j < n ∧ apartAt s t j = true ∧ (dl s t n).getD k 0 = s.fr + (j : Int) := by
  have h := List.getElem_mem hk
  rw [List.getD_eq_getElem?_getD, List.getElem?_eq_getElem hk]
  exact (dl_mem s t n _).1 h

theorem dl_sorted (s t : Sn) (n : Nat) : (dl s t n).Pairwise (· < ·) := by
  unfold dl
  rw [List.pairwise_map]
  refine List.Pairwise.imp ?_ (List.Pairwise.filter _ (List.pairwise_lt_range))
  intro a b h
  omega

theorem dl_lt (s t : Sn) (n k : Nat) (h0 : 0 < k) (hk : k < (dl s t n).length) : (dl s t n).getD (k - 1) 0 < (dl s t n).getD k 0 := by
  rw [List.getD_eq_getElem?_getD, List.getD_eq_getElem?_getD, List.getElem?_eq_getElem hk, List.getElem?_eq_getElem (by omega : k - 1 < (dl s t n).length)]
  exact List.pairwise_iff_getElem.1 (dl_sorted s t n) (k - 1) k (by omega) hk (by omega)

theorem dif_nil (z y : Nat → Int) (nb k : Nat) : (dif z y nb k).isEmpty = true ↔ ∀ i, i < k → i < nb → z i = y i := by
  rw [List.isEmpty_iff]
  simp only [dif, List.map_eq_nil_iff, List.filter_eq_nil_iff, List.mem_range, Bool.and_eq_true, decide_eq_true_eq, bne_iff_ne, not_and, Classical.not_not]

theorem dl_nil (s t : Sn) (h : pairE s t = 0) : (dl s t s.nw = []) ↔ Same s t := by
  obtain ⟨h1, h2, e1, e2⟩ := pair0 h
  obtain ⟨r0, r1, r2, r3, r4, r5⟩ := h1.1
  obtain ⟨x0, x1, x2, x3, x4, x5⟩ := h2.1
  have key : dl s t s.nw = [] ↔ ∀ i, i < s.nw → apartAt s t i = false := by
    simp [dl, List.map_eq_nil_iff, List.filter_eq_nil_iff]
  rw [key]
  have hap : ∀ i, i < s.nw → (apartAt s t i = false ↔ s.T i = t.T i ∧ s.C i = t.C i ∧ EqR (s.L i) (s.Z i) (t.L i) (t.Z i)) := by
    intro i hi
    have l1 := (h1.2 i hi).1
    have l2 := (h2.2 i (by omega)).1
    have hd := dif_nil (s.Z i) (t.Z i) (t.L i) (s.L i)
    unfold apartAt difAt EqR
    rw [Bool.or_eq_false_iff, Bool.or_eq_false_iff, Bool.not_eq_false', bne_eq_false_iff_eq, bne_eq_false_iff_eq, hd]
    constructor
    · rintro ⟨⟨a, b⟩, c⟩; exact ⟨a, b, by omega, fun j hj => c j hj (by omega)⟩
    · rintro ⟨a, b, c, d⟩; exact ⟨⟨a, b⟩, fun j hj _ => d j hj⟩
  constructor
  · intro hh
    refine ⟨e1, e2, ⟨by omega, fun i hi => ((hap i hi).1 (hh i hi)).2.2⟩, ⟨by omega, fun i hi => ((hap i (by omega)).1 (hh i (by omega))).1⟩, by omega, fun i hi => ((hap i (by omega)).1 (hh i (by omega))).2.1⟩
  · rintro ⟨-, -, hW, hT, hC⟩ i hi
    exact (hap i hi).2 ⟨hT.2 i (by omega), hC.2 i (by omega), hW.2 i hi⟩

theorem wordsE_at (s t : Sn) (h : pairE s t = 0) (j : Nat) (hj : j < s.nw) : wordsE s t (s.fr + (j : Int)) = 0 ∧ wordsL s t (s.fr + (j : Int)) = difAt s t j := by
  obtain ⟨h1, h2, e1, e2⟩ := pair0 h
  obtain ⟨r0, r1, r2, r3, r4, r5⟩ := h1.1
  have hE : wordsE s t (s.fr + (j : Int)) = 0 := by unfold wordsE; rw [if_neg (by omega), if_pos (by omega)]
  refine ⟨hE, ?_⟩
  unfold wordsL
  rw [if_pos hE, show (s.fr + (j : Int) - s.fr).toNat = j from by omega]
end Go.Proofs.Ytcjadneamacilaa.C

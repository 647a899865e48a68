/- slices.Clone at words and at numbers. -/
import Derived.Test.YtcjadneamacilaaX
import Derived.Test.YtcjadneamacilaaH
namespace Go.Proofs.Ytcjadneamacilaa.C
open Go.RowKit

set_option maxRecDepth 100000 in
theorem cloneW_c (w : World) (A : Option Addr) (c : Nat) (z : Nat → Int) (h : RowI .u64 w A 36 z) :
    Calls Try.prog 73 #[.slice A 36 c] w fun e w' => ∃ g cp, e = .returned (.slice (some ⟨g, 0, none⟩) 36 cp) ∧ w.heap.size ≤ g ∧ g < w'.heap.size ∧ 36 ≤ cp ∧ cp ≤ maxLen ∧ (∀ k, k < 36 → w'.cell? ⟨g, k, none⟩ = some (.int .u64 (z k))) ∧ Kept w w' := by
  have infoE : (Try.prog.info? 37).map (fun i => (i.zero, i.size, i.bytes)) = some (some (.int .u64 0), 1, 8) := by kernel_rfl
  obtain ⟨i0, hi, hz0, hz1, hz2⟩ := info_parts infoE
  obtain ⟨b, off, rfl, hc⟩ := h.2 (by omega)
  refine (Try.slices_Clone_f73 i0 (.int .u64 0) 1 8 hi hz0 hz1 hz2 rfl (by omega) (fun w => by kernel_rfl) b off 36 c (wrow z) w (by rw [wrow_len]) (by simp [maxLen]) (by omega) (fun j u hj => by
    have hj36 : j < 36 := by have := (List.getElem?_eq_some_iff.1 hj).1; rwa [wrow_len] at this
    rw [wrow_at z j hj36] at hj
    injection hj with hj; subst hj
    exact (hc j hj36).1) (by simp [wrow, Value.oneCell'])).mono ?_
  rintro e w' ⟨v', rfl, ho, hne, hB⟩
  have ho2 := ho
  obtain ⟨-, hh | ⟨g, cap, cur, rfl, h1, h2, h3, h4, _⟩⟩ := ho2
  · exact absurd hh.2 (by omega)
  · refine ⟨g, cap, rfl, h1, (Array.getElem?_eq_some_iff.1 h2).1, h3, h4, fun k hk => ?_, hB⟩
    rw [ho.cellAt k (by omega)]
    exact wrow_at z k hk

theorem cloneI_c (w : World) (b off n c : Nat) (z : Nat → Int) (hn : n ≤ 64) (h : ∀ i, i < n → w.cell? ⟨b, off + i, none⟩ = some (.int .i64 (z i))) :
    Calls Try.prog 74 #[.slice (some ⟨b, off, none⟩) n c] w fun e w' => ∃ v', e = .returned v' ∧ w'.ownsRow w.heap.size 3 1 v' n ((List.range n).map fun i => .int .i64 (z i)) ∧ Kept w w' := by
  refine (Try.slices_Clone_int b off n c ((List.range n).map z) w (by simp) (by omega) (fun j hj => by
    have hj' : j < n := by simpa using hj
    rw [h j hj', List.getD_eq_getElem?_getD, List.getElem?_map, List.getElem?_range hj']
    rfl)).mono ?_
  rintro e w' ⟨v', rfl, ho, -, hB⟩
  refine ⟨v', rfl, ?_, hB⟩
  rw [List.take_of_length_le (by simp), List.map_map] at ho
  exact ho

theorem clone0_c (w : World) (a : Option Addr) (c : Nat) :
    Calls Try.prog 74 #[.slice a 0 c] w fun e w' => ∃ a' c', e = .returned (.slice a' 0 c') ∧ c' ≤ maxLen ∧ Kept w w' := by
  cases a with
  | none =>
    refine (Try.slices_Clone_int_nil 0 c w).mono ?_
    rintro e w' ⟨rfl, rfl⟩
    exact ⟨none, 0, rfl, by simp [maxLen], Kept.refl _⟩
  | some ad =>
    refine (Try.slices_Clone_int_zero ad c w).mono ?_
    rintro e w' ⟨v', rfl, ho, -, hB⟩
    obtain ⟨-, hh | ⟨g, cap, cur, rfl, h1, h2, h3, h4, _⟩⟩ := ho
    · rw [hh.1]; exact ⟨none, 0, rfl, by simp [maxLen], hB⟩
    · exact ⟨_, _, rfl, h4, hB⟩
end Go.Proofs.Ytcjadneamacilaa.C

/- The three laws of package radix: each walk ends in true and turns nothing that lay there before. -/
import Derived.Test.YtkdibpnjldocoaaC
namespace Go.Proofs.Ytkdibpnjldocoaa.C
open Go.RowKit

theorem awake_c (w : World) : Calls Try.prog 8 #[] w fun e w' => e = .returned (.bool true) ∧ Kept w w' := by
  go_enter Try.func8, Try.ntmps8
  go_wp2_with (first | (go_at_call 10; refine (slotOf_ok 2 3 (by omega) (by omega) (by omega) (by omega) _).mono ?_; rintro e w' ⟨rfl, n, rfl⟩) | go_in)
  go_ret
  exact ⟨rfl, (Kept.refl _).drewN _⟩

theorem sl_f (a : Int) : (0 ≤ a ∧ a < 256 ∧ sl0 a = a / 16 ∧ sl1 a = a % 16 ∧ sl2 a = 0) ∨ (¬ (0 ≤ a ∧ a < 256) ∧ sl0 a = 0 ∧ sl1 a = 0 ∧ sl2 a = 1) := by
  by_cases h : 0 ≤ a ∧ a < 256
  · exact .inl ⟨h.1, h.2, if_pos h, if_pos h, if_pos h⟩
  · exact .inr ⟨h, if_neg h, if_neg h, if_neg h⟩
theorem pg_f (a : Int) : (0 ≤ a ∧ a < 32768 ∧ pg0 a = a / 32 / 32 ∧ pg1 a = a / 32 % 32 ∧ pg2 a = a % 32 ∧ pg3 a = 0) ∨ (¬ (0 ≤ a ∧ a < 32768) ∧ pg0 a = 0 ∧ pg1 a = 0 ∧ pg2 a = 0 ∧ pg3 a = 1) := by
  by_cases h : 0 ≤ a ∧ a < 32768
  · exact .inl ⟨h.1, h.2, if_pos h, if_pos h, if_pos h, if_pos h⟩
  · exact .inr ⟨h, if_neg h, if_neg h, if_neg h, if_neg h⟩
theorem so_f (p q : Int) : (0 ≤ p ∧ p < 16 ∧ 0 ≤ q ∧ q < 16 ∧ so0 p q = p * 16 + q ∧ so1 p q = 0) ∨ (¬ (0 ≤ p ∧ p < 16 ∧ 0 ≤ q ∧ q < 16) ∧ so0 p q = 0 ∧ so1 p q = 1) := by
  by_cases h : 0 ≤ p ∧ p < 16 ∧ 0 ≤ q ∧ q < 16
  · exact .inl ⟨h.1, h.2.1, h.2.2.1, h.2.2.2, if_pos h, if_pos h⟩
  · exact .inr ⟨h, if_neg h, if_neg h⟩
theorem po_f (p q r : Int) : (0 ≤ p ∧ p < 32 ∧ 0 ≤ q ∧ q < 32 ∧ 0 ≤ r ∧ r < 32 ∧ po0 p q r = (p * 32 + q) * 32 + r ∧ po1 p q r = 0) ∨ (¬ (0 ≤ p ∧ p < 32 ∧ 0 ≤ q ∧ q < 32 ∧ 0 ≤ r ∧ r < 32) ∧ po0 p q r = 0 ∧ po1 p q r = 1) := by
  by_cases h : 0 ≤ p ∧ p < 32 ∧ 0 ≤ q ∧ q < 32 ∧ 0 ≤ r ∧ r < 32
  · exact .inl ⟨h.1, h.2.1, h.2.2.1, h.2.2.2.1, h.2.2.2.2.1, h.2.2.2.2.2, if_pos h, if_pos h⟩
  · exact .inr ⟨h, if_neg h, if_neg h⟩
theorem nb_f (a : Int) : (0 ≤ a ∧ a < 32768 ∧ nb0 a = a / 32 ∧ nb1 a = 0) ∨ (¬ (0 ≤ a ∧ a < 32768) ∧ nb0 a = 0 ∧ nb1 a = 1) := by
  by_cases h : 0 ≤ a ∧ a < 32768
  · exact .inl ⟨h.1, h.2, if_pos h, if_pos h⟩
  · exact .inr ⟨h, if_neg h, if_neg h⟩


theorem wq_f (a : Int) : (0 ≤ a ∧ a < 32768 ∧ wrap64 (a.tdiv 32) = a / 32) ∨ ¬ (0 ≤ a ∧ a < 32768) := by
  by_cases h : 0 ≤ a ∧ a < 32768
  · refine .inl ⟨h.1, h.2, ?_⟩
    rw [Int.tdiv_eq_ediv_of_nonneg h.1]
    unfold wrap64
    omega
  · exact .inr h
theorem ret_b {a b : Bool} (h : a = b) : Ending.returned (.bool a) = .returned (.bool b) := by rw [h]
end Go.Proofs.Ytkdibpnjldocoaa.C

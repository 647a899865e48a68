/- Contracts of package live's methods. -/
import Derived.Test.YtnmkejdepmijeaaI
namespace Go.Proofs.Ytnmkejdepmijeaa.C
open Go.RowKit

def upd (L : Nat → Id) (i : Nat) (x : Id) : Nat → Id := fun j => if j = i then x else L j

theorem none_c (w : World) (tb sb : Nat) (L : Nat → Id) (h : Tab w tb sb L) :
    Calls Try.prog 19 #[.pointer (some ⟨tb, 0, none⟩)] w fun e w' => e = .returned (.bool false) ∧ w = w' := by
  have h1 := h.hd
  clear h
  go_enter Try.func19, Try.ntmps19
  go_wp2
  go_ret
  exact ⟨rfl, rfl⟩

theorem none_nil (w : World) :
    Calls Try.prog 19 #[.pointer none] w fun e w' => e = .returned (.bool true) ∧ w = w' := by
  go_enter Try.func19, Try.ntmps19
  go_wp2
  go_ret
  exact ⟨rfl, rfl⟩

def validB (L : Nat → Id) (i ep : Int) : Bool := decide (0 ≤ i) && decide (i < 64) && (L i.toNat).on && ((L i.toNat).ep == ep)

theorem valid_c (w : World) (tb sb : Nat) (L : Nat → Id) (i ep : Int) (h : Tab w tb sb L) :
    Calls Try.prog 11 #[.pointer (some ⟨tb, 0, none⟩), .int .i64 i, .int .i64 ep] w fun e w' => e = .returned (.bool (validB L i ep)) ∧ w = w' := by
  have H := Lib.hid h
  have hd := h.hd
  by_cases h1 : 0 ≤ i
  · by_cases h2 : i < 64
    · obtain ⟨k, rfl⟩ : ∃ k : Nat, i = k := ⟨i.toNat, by omega⟩
      have c0 := h.c0 k (by omega)
      have c1 := h.c1 k (by omega)
      clear h
      have hv : validB L k ep = ((L k).on && ((L k).ep == ep)) := by simp [validB, h2]
      cases ho : (L k).on
      · rw [ho] at c0 hv
        rw [hv]
        clear hv ho
        go_enter Try.func11, Try.ntmps11
        go_wp2_with (first | (go_at_call 19; refine (none_c _ tb sb L H.out).mono ?_; rintro e w' ⟨rfl, rfl⟩))
        go_ret
        exact ⟨rfl, rfl⟩
      · rw [ho] at c0 hv
        rw [hv]
        clear hv ho
        go_enter Try.func11, Try.ntmps11
        go_wp2_with (first | (go_at_call 19; refine (none_c _ tb sb L H.out).mono ?_; rintro e w' ⟨rfl, rfl⟩))
        go_ret
        exact ⟨rfl, rfl⟩
    · rw [show validB L i ep = false from by simp [validB, h2]]
      clear h
      go_enter Try.func11, Try.ntmps11
      go_wp2_with (first | (go_at_call 19; refine (none_c _ tb sb L H.out).mono ?_; rintro e w' ⟨rfl, rfl⟩))
      go_ret
      exact ⟨rfl, rfl⟩
  · rw [show validB L i ep = false from by simp [validB, h1]]
    clear h
    go_enter Try.func11, Try.ntmps11
    go_wp2_with (first | (go_at_call 19; refine (none_c _ tb sb L H.out).mono ?_; rintro e w' ⟨rfl, rfl⟩))
    go_ret
    exact ⟨rfl, rfl⟩
end Go.Proofs.Ytnmkejdepmijeaa.C

/- A Retype that fails leaves the world as it is. -/
import Derived.Test.YtcmflbjaloandaaT1
namespace Go.Proofs.Ytcmflbjaloandaa.C
open Go.RowKit

theorem retype_no (w : World) (tb sb n cap : Nat) (L : Nat → Fm) (f to : Int) (q : Bool) (h : Tb w tb sb n cap L) (hno : rtE n L f to q ≠ 0) :
    Calls Try.prog 7 #[.pointer (some ⟨tb, 0, none⟩), .int .i64 f, .int .i64 to, .bool q] w fun e w' => e = .returned (.int .i64 (rtE n L f to q)) ∧ w = w' := by
  have H := Lib.hid h
  have hd := h.hd
  have hp := h.pos
  have hl := h.le
  by_cases hr : 0 ≤ f ∧ f < n
  · obtain ⟨k, rfl⟩ : ∃ k : Nat, f = k := ⟨f.toNat, by omega⟩
    obtain ⟨r0, r1⟩ := hr
    have hk : k < n := by omega
    have HC : Hid (canE n k = 0) := if_pos ⟨r0, r1⟩
    have e0 : rtE n L k to q = rtOk (L k) to q := by unfold rtE; rw [if_pos ⟨r0, r1⟩]; rfl
    have c0 := h.c0 k hk
    have f0 := h.fz (k * 4)
    have hne := h.ne
    clear h
    by_cases t1 : to = 1 ∨ to = 2
    · have hto : ¬ (to ≠ 1 ∧ to ≠ 2) := by omega
      by_cases ty0 : (L k).ty = 0
      · cases q
        · have e1 : rtE n L k to false = 6 := by rw [e0]; unfold rtOk; rw [if_neg hto, if_neg (by omega)]; rfl
          rw [e1]
          rw [ty0] at c0
          clear hno e0 e1 ty0 hto
          rcases t1 with rfl | rfl
          all_goals
            go_enter Try.func7, Try.ntmps7
            go_wp2_with (go_at_call 23; refine (can_c _ tb sb n cap L _ H.out).mono ?_; rw [HC.out]; rintro e w' ⟨rfl, rfl⟩)
            go_ret
            exact ⟨rfl, rfl⟩
        · have e1 : rtE n L k to true = 0 := by rw [e0]; unfold rtOk; rw [if_neg hto, if_neg (by omega)]; rfl
          exact absurd e1 hno
      · have e1 : rtE n L k to q = 4 := by rw [e0]; unfold rtOk; rw [if_neg hto, if_pos ty0]
        rw [e1]
        have b1 : ((L k).ty != 0) = true := by simp; exact ty0
        clear hno e0 e1 ty0 hto
        generalize (L k).ty = x at c0 b1
        rcases t1 with rfl | rfl
        all_goals
          go_enter Try.func7, Try.ntmps7
          go_wp2_with (go_at_call 23; refine (can_c _ tb sb n cap L _ H.out).mono ?_; rw [HC.out]; rintro e w' ⟨rfl, rfl⟩)
          go_ret
          exact ⟨rfl, rfl⟩
    · have hto : to ≠ 1 ∧ to ≠ 2 := by omega
      have e1 : rtE n L k to q = 1 := by rw [e0]; unfold rtOk; rw [if_pos hto]
      rw [e1]
      have b1 : (to == 1) = false := by simp; omega
      have b2 : (to == 2) = false := by simp; omega
      clear hno e0 e1 hto t1
      go_enter Try.func7, Try.ntmps7
      go_wp2_with (go_at_call 23; refine (can_c _ tb sb n cap L _ H.out).mono ?_; rw [HC.out]; rintro e w' ⟨rfl, rfl⟩)
      go_ret
      exact ⟨rfl, rfl⟩
  · have e1 : rtE n L f to q = 1 := if_neg hr
    have HC : Hid (canE n f = 1) := if_neg hr
    rw [e1]
    clear hno e1 hr h
    go_enter Try.func7, Try.ntmps7
    go_wp2_with (go_at_call 23; refine (can_c _ tb sb n cap L _ H.out).mono ?_; rw [HC.out]; rintro e w' ⟨rfl, rfl⟩)
    go_ret
    exact ⟨rfl, rfl⟩

theorem retype1_no {w : World} {tb sb cap : Nat} {x : Fm} (h : Tb w tb sb 1 cap (one x)) (to : Int) (q : Bool) (hno : rtOk x to q ≠ 0) :
    Calls Try.prog 7 #[.pointer (some ⟨tb, 0, none⟩), .int .i64 0, .int .i64 to, .bool q] w fun e w' => e = .returned (.int .i64 (rtOk x to q)) ∧ w = w' := by
  have k := retype_no w tb sb 1 cap (one x) 0 to q h (by rw [rtE_one]; exact hno)
  rw [rtE_one] at k; exact k
end Go.Proofs.Ytcmflbjaloandaa.C

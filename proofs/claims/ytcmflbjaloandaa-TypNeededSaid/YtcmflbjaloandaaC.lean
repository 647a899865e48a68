/- The contracts of package typ's methods. -/
import Derived.Test.YtcmflbjaloandaaM
namespace Go.Proofs.Ytcmflbjaloandaa.C
open Go.RowKit

theorem none_c (w : World) (tb sb n cap : Nat) (L : Nat → Fm) (h : Tb w tb sb n cap L) :
    Calls Try.prog 28 #[.pointer (some ⟨tb, 0, none⟩)] w fun e w' => e = .returned (.bool false) ∧ w = w' := by
  have h1 := h.hd
  have hp := h.pos
  have b1 : ((n : Int) == 0) = false := by simp; omega
  clear h
  go_enter Try.func28, Try.ntmps28
  go_wp2
  go_ret
  exact ⟨rfl, rfl⟩

def canE (n : Nat) (f : Int) : Int := if 0 ≤ f ∧ f < n then 0 else 1
theorem can_c (w : World) (tb sb n cap : Nat) (L : Nat → Fm) (f : Int) (h : Tb w tb sb n cap L) :
    Calls Try.prog 23 #[.pointer (some ⟨tb, 0, none⟩), .int .i64 f] w fun e w' => e = .returned (.int .i64 (canE n f)) ∧ w = w' := by
  have H := Lib.hid h
  have hd := h.hd
  have hp := h.pos
  have hl := h.le
  clear h
  by_cases h1 : 0 ≤ f
  · by_cases h2 : f < n
    · rw [show canE n f = 0 from if_pos ⟨h1, h2⟩]
      go_enter Try.func23, Try.ntmps23
      go_wp2_with (go_at_call 28; refine (none_c _ tb sb n cap L H.out).mono ?_; rintro e w' ⟨rfl, rfl⟩)
      go_ret
      exact ⟨rfl, rfl⟩
    · rw [show canE n f = 1 from if_neg (by omega)]
      go_enter Try.func23, Try.ntmps23
      go_wp2_with (go_at_call 28; refine (none_c _ tb sb n cap L H.out).mono ?_; rintro e w' ⟨rfl, rfl⟩)
      go_ret
      exact ⟨rfl, rfl⟩
  · rw [show canE n f = 1 from if_neg (by omega)]
    go_enter Try.func23, Try.ntmps23
    go_wp2_with (go_at_call 28; refine (none_c _ tb sb n cap L H.out).mono ?_; rintro e w' ⟨rfl, rfl⟩)
    go_ret
    exact ⟨rfl, rfl⟩

theorem retype_c (w : World) (tb sb n cap : Nat) (L : Nat → Fm) (f to : Int) (q : Bool) (h : Tb w tb sb n cap L) :
    Calls Try.prog 7 #[.pointer (some ⟨tb, 0, none⟩), .int .i64 f, .int .i64 to, .bool q] w fun e w' => e = .returned (.int .i64 (rtE n L f to q)) ∧ Tb w' tb sb n cap (rtL n L f to q) ∧ w.grownBy w' (some sb) := by
  have H := Lib.hid h
  have hd := h.hd
  have hp := h.pos
  have hl := h.le
  by_cases hr : 0 ≤ f ∧ f < n
  · obtain ⟨k, rfl⟩ : ∃ k : Nat, f = k := ⟨f.toNat, by omega⟩
    obtain ⟨r0, r1⟩ := hr
    have hk : k < n := by omega
    have HC : Hid (canE n k = 0) := if_pos ⟨r0, r1⟩
    have e0 : rtE n L k to q = rtOk (L k) to q := by unfold rtE; rw [if_pos ⟨r0, r1⟩]; rfl
    have c0 := h.c0 k hk
    have f0 := h.fz (k * 4)
    have hne := h.ne
    clear h
    by_cases t1 : to = 1 ∨ to = 2
    · have hto : ¬ (to ≠ 1 ∧ to ≠ 2) := by omega
      by_cases ty0 : (L k).ty = 0
      · cases q
        · have e1 : rtE n L k to false = 6 := by rw [e0]; unfold rtOk; rw [if_neg hto, if_neg (by omega)]; rfl
          have e2 : rtL n L k to false = L := by unfold rtL; rw [e1]; rfl
          rw [e1, e2]
          rw [ty0] at c0
          clear e0 e1 e2 ty0 hto
          rcases t1 with rfl | rfl
          all_goals
            go_enter Try.func7, Try.ntmps7
            go_wp2_with (go_at_call 23; refine (can_c _ tb sb n cap L _ H.out).mono ?_; rw [HC.out]; rintro e w' ⟨rfl, rfl⟩)
            go_ret
            exact ⟨rfl, H.out, grownBy_kept (Kept.refl _) _⟩
        · have e1 : rtE n L k to true = 0 := by rw [e0]; unfold rtOk; rw [if_neg hto, if_neg (by omega)]; rfl
          have e2 : rtL n L k to true = upd L k { L k with ty := to } := by unfold rtL; rw [e1]; rfl
          rw [e1, e2]
          rw [ty0] at c0
          clear e0 e1 e2 ty0 hto
          rcases t1 with rfl | rfl
          all_goals
            go_enter Try.func7, Try.ntmps7
            go_wp2_with (go_at_call 23; refine (can_c _ tb sb n cap L _ H.out).mono ?_; rw [HC.out]; rintro e w' ⟨rfl, rfl⟩)
            go_ret
            exact ⟨rfl, H.out.set0 k hk _, grownBy_setCell w ⟨sb, k * 4, none⟩ _⟩
      · have e1 : rtE n L k to q = 4 := by rw [e0]; unfold rtOk; rw [if_neg hto, if_pos ty0]
        have e2 : rtL n L k to q = L := by unfold rtL; rw [e1]; rfl
        rw [e1, e2]
        have b1 : ((L k).ty != 0) = true := by simp; exact ty0
        clear e0 e1 e2 ty0 hto
        generalize (L k).ty = x at c0 b1
        rcases t1 with rfl | rfl
        all_goals
          go_enter Try.func7, Try.ntmps7
          go_wp2_with (go_at_call 23; refine (can_c _ tb sb n cap L _ H.out).mono ?_; rw [HC.out]; rintro e w' ⟨rfl, rfl⟩)
          go_ret
          exact ⟨rfl, H.out, grownBy_kept (Kept.refl _) _⟩
    · have hto : to ≠ 1 ∧ to ≠ 2 := by omega
      have e1 : rtE n L k to q = 1 := by rw [e0]; unfold rtOk; rw [if_pos hto]
      have e2 : rtL n L k to q = L := by unfold rtL; rw [e1]; rfl
      rw [e1, e2]
      have b1 : (to == 1) = false := by simp; omega
      have b2 : (to == 2) = false := by simp; omega
      clear e0 e1 e2 hto t1
      go_enter Try.func7, Try.ntmps7
      go_wp2_with (go_at_call 23; refine (can_c _ tb sb n cap L _ H.out).mono ?_; rw [HC.out]; rintro e w' ⟨rfl, rfl⟩)
      go_ret
      exact ⟨rfl, H.out, grownBy_kept (Kept.refl _) _⟩
  · have e1 : rtE n L f to q = 1 := if_neg hr
    have e2 : rtL n L f to q = L := by unfold rtL; rw [e1]; rfl
    have HC : Hid (canE n f = 1) := if_neg hr
    rw [e1, e2]
    clear e1 e2 hr h
    go_enter Try.func7, Try.ntmps7
    go_wp2_with (go_at_call 23; refine (can_c _ tb sb n cap L _ H.out).mono ?_; rw [HC.out]; rintro e w' ⟨rfl, rfl⟩)
    go_ret
    exact ⟨rfl, H.out, grownBy_kept (Kept.refl _) _⟩
end Go.Proofs.Ytcmflbjaloandaa.C

/- The contracts of package typ's methods: free, untype. -/
import Derived.Test.YtcmflbjaloandaaC
namespace Go.Proofs.Ytcmflbjaloandaa.C
open Go.RowKit

theorem free_c (w : World) (sb k : Nat) (x now : Int) (h : w.cell? ⟨sb, k * 4 + 2, none⟩ = some (.int .i64 x)) (hf : w.frozen? ⟨sb, k * 4 + 2, none⟩ = false) :
    Calls Try.prog 24 #[.pointer (some ⟨sb, k * 4, none⟩), .int .i64 now] w fun e w' => e = .returned (.tuple #[]) ∧ w.setCell ⟨sb, k * 4 + 2, none⟩ (.int .i64 (max x now)) = w' := by
  by_cases hx : now ≤ x
  · rw [show max x now = x from by omega]
    go_enter Try.func24, Try.ntmps24
    go_wp2
    go_end0
    exact ⟨rfl, rfl⟩
  · rw [show max x now = now from by omega]
    go_enter Try.func24, Try.ntmps24
    go_wp2
    go_end0
    exact ⟨rfl, rfl⟩

theorem Tb.unty {w : World} {tb sb n cap : Nat} {L : Nat → Fm} (h : Tb w tb sb n cap L) (k : Nat) (hk : k < n) (wa now : Int) :
    Tb (((w.setCell ⟨sb, k * 4 + 3, none⟩ (.int .i64 wa)).setCell ⟨sb, k * 4, none⟩ (.int .i64 0)).setCell ⟨sb, k * 4 + 2, none⟩ (.int .i64 (max (L k).fr now))) tb sb n cap (upd L k ⟨0, (L k).ct, max (L k).fr now, wa⟩) := by
  have h3 := ((h.set3 k hk wa).set0 k hk 0).set2 k hk (max (L k).fr now)
  simp only [upd_upd, upd_at] at h3
  exact h3
theorem Tb.unty2 {w : World} {tb sb n cap : Nat} {L : Nat → Fm} (h : Tb w tb sb n cap L) (k : Nat) (hk : k < n) (ty wa now : Int) :
    Tb ((((w.setCell ⟨sb, k * 4 + 3, none⟩ (.int .i64 ty)).setCell ⟨sb, k * 4 + 3, none⟩ (.int .i64 wa)).setCell ⟨sb, k * 4, none⟩ (.int .i64 0)).setCell ⟨sb, k * 4 + 2, none⟩ (.int .i64 (max (L k).fr now))) tb sb n cap (upd L k ⟨0, (L k).ct, max (L k).fr now, wa⟩) := by
  have h3 := (((h.set3 k hk ty).set3 k hk wa).set0 k hk 0).set2 k hk (max (L k).fr now)
  simp only [upd_upd, upd_at] at h3
  exact h3
theorem grown3 (w : World) (sb a b c : Nat) (u v x : Value) : w.grownBy (((w.setCell ⟨sb, a, none⟩ u).setCell ⟨sb, b, none⟩ v).setCell ⟨sb, c, none⟩ x) (some sb) :=
  ((grownBy_setCell w ⟨sb, a, none⟩ u).trans (grownBy_setCell _ ⟨sb, b, none⟩ v)).trans (grownBy_setCell _ ⟨sb, c, none⟩ x)
theorem grown4 (w : World) (sb a b c d : Nat) (u v x y : Value) : w.grownBy ((((w.setCell ⟨sb, a, none⟩ u).setCell ⟨sb, b, none⟩ v).setCell ⟨sb, c, none⟩ x).setCell ⟨sb, d, none⟩ y) (some sb) :=
  (grown3 w sb a b c u v x).trans (grownBy_setCell _ ⟨sb, d, none⟩ y)

theorem thru2 {w : World} {sb a b c : Nat} {u v x : Value} (hc : w.cell? ⟨sb, c, none⟩ = some x) (h1 : a ≠ c) (h2 : b ≠ c) : ((w.setCell ⟨sb, a, none⟩ u).setCell ⟨sb, b, none⟩ v).cell? ⟨sb, c, none⟩ = some x :=
  (World.cell?_setCell_other _ _ _ _ (addr_ne (.inr h2))).trans ((World.cell?_setCell_other _ _ _ _ (addr_ne (.inr h1))).trans hc)
theorem thru3 {w : World} {sb a b c d : Nat} {u v y x : Value} (hc : w.cell? ⟨sb, c, none⟩ = some x) (h1 : a ≠ c) (h2 : b ≠ c) (h3 : d ≠ c) : (((w.setCell ⟨sb, a, none⟩ u).setCell ⟨sb, b, none⟩ v).setCell ⟨sb, d, none⟩ y).cell? ⟨sb, c, none⟩ = some x :=
  (World.cell?_setCell_other _ _ _ _ (addr_ne (.inr h3))).trans (thru2 hc h1 h2)

set_option maxHeartbeats 1000000 in
theorem untype_c (w : World) (tb sb n cap : Nat) (L : Nat → Fm) (f now : Int) (p : Bool) (h : Tb w tb sb n cap L) :
    Calls Try.prog 8 #[.pointer (some ⟨tb, 0, none⟩), .int .i64 f, .int .i64 now, .bool p] w fun e w' => e = .returned (.int .i64 (utE n L f)) ∧ Tb w' tb sb n cap (utL n L f now p) ∧ w.grownBy w' (some sb) := by
  have H := Lib.hid h
  have hd := h.hd
  have hp := h.pos
  have hl := h.le
  by_cases hr : 0 ≤ f ∧ f < n
  · obtain ⟨k, rfl⟩ : ∃ k : Nat, f = k := ⟨f.toNat, by omega⟩
    obtain ⟨r0, r1⟩ := hr
    have hk : k < n := by omega
    have HC : Hid (canE n k = 0) := if_pos ⟨r0, r1⟩
    have e0 : utE n L k = if (L k).ty = 0 then 4 else if (L k).ct ≠ 0 then 10 else 0 := by unfold utE; rw [if_pos ⟨r0, r1⟩]; rfl
    have c0 := h.c0 k hk
    have c1 := h.c1 k hk
    have c2 := h.c2 k hk
    have c3 := h.c3 k hk
    have f0 := h.fz (k * 4)
    have f2 := h.fz (k * 4 + 2)
    have f3 := h.fz (k * 4 + 3)
    have hne := h.ne
    clear h
    by_cases ty0 : (L k).ty = 0
    · have e1 : utE n L k = 4 := by rw [e0, if_pos ty0]
      have e2 : utL n L k now p = L := by unfold utL; rw [e1]; rfl
      rw [e1, e2]
      rw [ty0] at c0
      clear e0 e1 e2 ty0 c1 c2 c3 f0 f2 f3
      go_enter Try.func8, Try.ntmps8
      go_wp2_with (go_at_call 23; refine (can_c _ tb sb n cap L _ H.out).mono ?_; rw [HC.out]; rintro e w' ⟨rfl, rfl⟩)
      go_ret
      exact ⟨rfl, H.out, grownBy_kept (Kept.refl _) _⟩
    · have b0 : ((L k).ty == 0) = false := by simp; exact ty0
      by_cases ct0 : (L k).ct = 0
      · have e1 : utE n L k = 0 := by rw [e0, if_neg ty0, if_neg (by omega)]
        have e2 : utL n L k now p = upd L k ⟨0, (L k).ct, max (L k).fr now, if p = true ∧ (L k).ty = 2 then 3 else (L k).ty⟩ := by unfold utL; rw [e1]; rfl
        rw [e1, e2]
        rw [ct0] at c1
        have hty : ¬ (L k).ty = 0 := ty0
        cases p
        · rw [show (if false = true ∧ (L k).ty = 2 then (3 : Int) else (L k).ty) = (L k).ty from by simp]
          clear e0 e1 e2 ty0 ct0 hty
          have HT := Lib.hid (H.out.unty k hk (L k).ty now)
          generalize (L k).ty = x at c0 b0 HT ⊢
          go_enter Try.func8, Try.ntmps8
          go_wp2_with (first | (go_at_call 23; refine (can_c _ tb sb n cap L _ H.out).mono ?_; rw [HC.out]; rintro e w' ⟨rfl, rfl⟩) | (go_at_call 24; refine (free_c _ sb k (L k).fr now (by first | exact thru2 c2 (by omega) (by omega) | exact thru3 c2 (by omega) (by omega) (by omega)) (by simp only [World.frozen?_setCell]; exact f2)).mono ?_; rintro e w' ⟨rfl, rfl⟩))
          go_ret
          exact ⟨rfl, HT.out, grown3 w sb _ _ _ _ _ _⟩
        · by_cases ty2 : (L k).ty = 2
          · rw [if_pos ⟨rfl, ty2⟩]
            have HT := Lib.hid (H.out.unty2 k hk (L k).ty 3 now)
            rw [ty2] at c0 b0 HT
            clear e0 e1 e2 ty0 ct0 hty ty2
            go_enter Try.func8, Try.ntmps8
            go_wp2_with (first | (go_at_call 23; refine (can_c _ tb sb n cap L _ H.out).mono ?_; rw [HC.out]; rintro e w' ⟨rfl, rfl⟩) | (go_at_call 24; refine (free_c _ sb k (L k).fr now (by first | exact thru2 c2 (by omega) (by omega) | exact thru3 c2 (by omega) (by omega) (by omega)) (by simp only [World.frozen?_setCell]; exact f2)).mono ?_; rintro e w' ⟨rfl, rfl⟩))
            go_ret
            exact ⟨rfl, HT.out, grown4 w sb _ _ _ _ _ _ _ _⟩
          · rw [if_neg (fun hc => ty2 hc.2)]
            have b2 : ((L k).ty == 2) = false := by simp; exact ty2
            clear e0 e1 e2 ty0 ct0 hty ty2
            have HT := Lib.hid (H.out.unty k hk (L k).ty now)
            generalize (L k).ty = x at c0 b0 b2 HT ⊢
            go_enter Try.func8, Try.ntmps8
            go_wp2_with (first | (go_at_call 23; refine (can_c _ tb sb n cap L _ H.out).mono ?_; rw [HC.out]; rintro e w' ⟨rfl, rfl⟩) | (go_at_call 24; refine (free_c _ sb k (L k).fr now (by first | exact thru2 c2 (by omega) (by omega) | exact thru3 c2 (by omega) (by omega) (by omega)) (by simp only [World.frozen?_setCell]; exact f2)).mono ?_; rintro e w' ⟨rfl, rfl⟩))
            go_ret
            exact ⟨rfl, HT.out, grown3 w sb _ _ _ _ _ _⟩
      · have e1 : utE n L k = 10 := by rw [e0, if_neg ty0, if_pos ct0]
        have e2 : utL n L k now p = L := by unfold utL; rw [e1]; rfl
        rw [e1, e2]
        have b1 : ((L k).ct != 0) = true := by simp; exact ct0
        clear e0 e1 e2 ty0 ct0 c2 c3 f0 f2 f3
        generalize (L k).ty = x at c0 b0
        generalize (L k).ct = y at c1 b1
        go_enter Try.func8, Try.ntmps8
        go_wp2_with (go_at_call 23; refine (can_c _ tb sb n cap L _ H.out).mono ?_; rw [HC.out]; rintro e w' ⟨rfl, rfl⟩)
        go_ret
        exact ⟨rfl, H.out, grownBy_kept (Kept.refl _) _⟩
  · have e1 : utE n L f = 1 := if_neg hr
    have e2 : utL n L f now p = L := by unfold utL; rw [e1]; rfl
    have HC : Hid (canE n f = 1) := if_neg hr
    rw [e1, e2]
    clear e1 e2 hr h
    go_enter Try.func8, Try.ntmps8
    go_wp2_with (go_at_call 23; refine (can_c _ tb sb n cap L _ H.out).mono ?_; rw [HC.out]; rintro e w' ⟨rfl, rfl⟩)
    go_ret
    exact ⟨rfl, H.out, grownBy_kept (Kept.refl _) _⟩
end Go.Proofs.Ytcmflbjaloandaa.C

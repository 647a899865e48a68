/- The reference's methods: Untype, Unref. -/
import Derived.Test.YtcmflbjaloandaaQ
namespace Go.Proofs.Ytcmflbjaloandaa.C
open Go.RowKit

theorem Tb.whole {w : World} {tb sb n cap : Nat} {L : Nat → Fm} (h : Tb w tb sb n cap L) (k : Nat) (hk : k < n) (x : Fm) (h0 : 0 ≤ x.ct) (h1 : x.ct ≤ 1000) :
    Tb ((((w.setCell ⟨sb, k * 4, none⟩ (.int .i64 x.ty)).setCell ⟨sb, k * 4 + 1, none⟩ (.int .i64 x.ct)).setCell ⟨sb, k * 4 + 2, none⟩ (.int .i64 x.fr)).setCell ⟨sb, k * 4 + 3, none⟩ (.int .i64 x.wa)) tb sb n cap (upd L k x) := by
  have h3 := (((h.set0 k hk x.ty).set1 k hk x.ct h0 h1).set2 k hk x.fr).set3 k hk x.wa
  simp only [upd_upd, upd_at] at h3
  exact h3

theorem keptAll {w w' : World} {tb sb n cap : Nat} {L : Nat → Fm} {e e' : Ending} (h : Tb w tb sb n cap L) (he : e = e') (hk : Kept w w') : e = e' ∧ Tb w' tb sb n cap L ∧ w.grownBy w' (some sb) := ⟨he, h.kept hk, grownBy_kept hk _⟩

set_option maxHeartbeats 1000000 in
theorem runtype_c (w : World) (tb sb n cap : Nat) (L : Nat → Fm) (f now : Int) (p : Bool) (h : Tb w tb sb n cap L) :
    Calls Try.prog 19 #[.pointer (some ⟨tb, 0, none⟩), .int .i64 f, .int .i64 now, .bool p] w fun e w' => e = .returned (.int .i64 (utE n L f)) ∧ Tb w' tb sb n cap (utL n L f now p) ∧ w.grownBy w' (some sb) := by
  have H := Lib.hid h
  have hd := h.hd
  have hp := h.pos
  have hl := h.le
  have hlt := h.lt
  have hlt2 := h.ltt
  by_cases hr : 0 ≤ f ∧ f < n
  · obtain ⟨k, rfl⟩ : ∃ k : Nat, f = k := ⟨f.toNat, by omega⟩
    obtain ⟨r0, r1⟩ := hr
    have hk : k < n := by omega
    have HC : Hid (inR n k = true) := decide_eq_true ⟨r0, r1⟩
    have e0 : utE n L k = if (L k).ty = 0 then 4 else if (L k).ct ≠ 0 then 10 else 0 := by unfold utE; rw [if_pos ⟨r0, r1⟩]; rfl
    have c0 := h.c0 k hk
    have c1 := h.c1 k hk
    have c2 := h.c2 k hk
    have c3 := h.c3 k hk
    have f0 := h.fz (k * 4)
    have f1 := h.fz (k * 4 + 1)
    have f2 := h.fz (k * 4 + 2)
    have f3 := h.fz (k * 4 + 3)
    have hne := h.ne
    clear h
    by_cases ty0 : (L k).ty = 0
    · have e1 : utE n L k = 4 := by rw [e0, if_pos ty0]
      have e2 : utL n L k now p = L := by unfold utL; rw [e1]; rfl
      rw [e1, e2]
      rw [ty0] at c0
      clear e0 e1 e2 ty0
      go_enter Try.func19, Try.ntmps19
      go_wp2_with (go_at_call 27; refine (is_c _ tb sb n cap L _ H.out).mono ?_; rw [HC.out]; rintro e w' ⟨rfl, rfl⟩)
      go_ret
      refine keptAll H.out rfl ?_
      repeat (first | exact Kept.refl _ | apply Kept.alloc | (refine Kept.setCell ?_ (by simp) _))
    · have b0 : ((L k).ty == 0) = false := by simp; exact ty0
      by_cases ct0 : (L k).ct = 0
      · have e1 : utE n L k = 0 := by rw [e0, if_neg ty0, if_neg (by omega)]
        have e2 : utL n L k now p = upd L k ⟨0, (L k).ct, max (L k).fr now, if p = true ∧ (L k).ty = 2 then 3 else (L k).ty⟩ := by unfold utL; rw [e1]; rfl
        rw [e1, e2]
        rw [ct0] at c1 ⊢
        have HT := fun (wa m : Int) => H.out.whole k hk ⟨0, 0, m, wa⟩ (Int.le_refl _) (by simp)
        have HT := Lib.hid HT
        cases p
        · rw [show (if false = true ∧ (L k).ty = 2 then (3 : Int) else (L k).ty) = (L k).ty from by simp]
          clear e0 e1 e2 ty0 ct0
          generalize (L k).ty = x at c0 b0 ⊢
          by_cases hx : now ≤ (L k).fr
          · rw [show max (L k).fr now = (L k).fr from by omega]
            go_enter Try.func19, Try.ntmps19
            go_wp2_with (go_at_call 27; refine (is_c _ tb sb n cap L _ H.out).mono ?_; rw [HC.out]; rintro e w' ⟨rfl, rfl⟩)
            go_region
            go_wp2
            go_ret
            exact ⟨rfl, (HT.out _ _).kept (((Kept.refl _).alloc _).drew), (grown4 w sb _ _ _ _ _ _ _ _).trans (grownBy_kept (((Kept.refl _).alloc _).drew) _)⟩
          · rw [show max (L k).fr now = now from by omega]
            go_enter Try.func19, Try.ntmps19
            go_wp2_with (go_at_call 27; refine (is_c _ tb sb n cap L _ H.out).mono ?_; rw [HC.out]; rintro e w' ⟨rfl, rfl⟩)
            go_region
            go_wp2
            go_ret
            exact ⟨rfl, (HT.out _ _).kept (((Kept.refl _).alloc _).drew), (grown4 w sb _ _ _ _ _ _ _ _).trans (grownBy_kept (((Kept.refl _).alloc _).drew) _)⟩
        · by_cases ty2 : (L k).ty = 2
          · rw [if_pos ⟨rfl, ty2⟩]
            rw [ty2] at c0 b0
            clear e0 e1 e2 ty0 ct0 ty2
            by_cases hx : now ≤ (L k).fr
            · rw [show max (L k).fr now = (L k).fr from by omega]
              go_enter Try.func19, Try.ntmps19
              go_wp2_with (go_at_call 27; refine (is_c _ tb sb n cap L _ H.out).mono ?_; rw [HC.out]; rintro e w' ⟨rfl, rfl⟩)
              go_region
              go_wp2
              go_ret
              exact ⟨rfl, (HT.out _ _).kept (((Kept.refl _).alloc _).drew), (grown4 w sb _ _ _ _ _ _ _ _).trans (grownBy_kept (((Kept.refl _).alloc _).drew) _)⟩
            · rw [show max (L k).fr now = now from by omega]
              go_enter Try.func19, Try.ntmps19
              go_wp2_with (go_at_call 27; refine (is_c _ tb sb n cap L _ H.out).mono ?_; rw [HC.out]; rintro e w' ⟨rfl, rfl⟩)
              go_region
              go_wp2
              go_ret
              exact ⟨rfl, (HT.out _ _).kept (((Kept.refl _).alloc _).drew), (grown4 w sb _ _ _ _ _ _ _ _).trans (grownBy_kept (((Kept.refl _).alloc _).drew) _)⟩
          · rw [if_neg (fun hc => ty2 hc.2)]
            have b2 : ((L k).ty == 2) = false := by simp; exact ty2
            clear e0 e1 e2 ty0 ct0 ty2
            generalize (L k).ty = x at c0 b0 b2 ⊢
            by_cases hx : now ≤ (L k).fr
            · rw [show max (L k).fr now = (L k).fr from by omega]
              go_enter Try.func19, Try.ntmps19
              go_wp2_with (go_at_call 27; refine (is_c _ tb sb n cap L _ H.out).mono ?_; rw [HC.out]; rintro e w' ⟨rfl, rfl⟩)
              go_region
              go_wp2
              go_ret
              exact ⟨rfl, (HT.out _ _).kept (((Kept.refl _).alloc _).drew), (grown4 w sb _ _ _ _ _ _ _ _).trans (grownBy_kept (((Kept.refl _).alloc _).drew) _)⟩
            · rw [show max (L k).fr now = now from by omega]
              go_enter Try.func19, Try.ntmps19
              go_wp2_with (go_at_call 27; refine (is_c _ tb sb n cap L _ H.out).mono ?_; rw [HC.out]; rintro e w' ⟨rfl, rfl⟩)
              go_region
              go_wp2
              go_ret
              exact ⟨rfl, (HT.out _ _).kept (((Kept.refl _).alloc _).drew), (grown4 w sb _ _ _ _ _ _ _ _).trans (grownBy_kept (((Kept.refl _).alloc _).drew) _)⟩
      · have e1 : utE n L k = 10 := by rw [e0, if_neg ty0, if_pos ct0]
        have e2 : utL n L k now p = L := by unfold utL; rw [e1]; rfl
        rw [e1, e2]
        have b1 : ((L k).ct != 0) = true := by simp; exact ct0
        clear e0 e1 e2 ty0 ct0
        generalize (L k).ty = x at c0 b0
        generalize (L k).ct = y at c1 b1
        go_enter Try.func19, Try.ntmps19
        go_wp2_with (go_at_call 27; refine (is_c _ tb sb n cap L _ H.out).mono ?_; rw [HC.out]; rintro e w' ⟨rfl, rfl⟩)
        go_ret
        refine keptAll H.out rfl ?_
        repeat (first | exact Kept.refl _ | apply Kept.alloc | (refine Kept.setCell ?_ (by simp) _))
  · have e1 : utE n L f = 1 := if_neg hr
    have e2 : utL n L f now p = L := by unfold utL; rw [e1]; rfl
    have HC : Hid (inR n f = false) := decide_eq_false hr
    rw [e1, e2]
    clear e1 e2 hr h
    go_enter Try.func19, Try.ntmps19
    go_wp2_with (go_at_call 27; refine (is_c _ tb sb n cap L _ H.out).mono ?_; rw [HC.out]; rintro e w' ⟨rfl, rfl⟩)
    go_ret
    exact ⟨rfl, H.out, grownBy_kept (Kept.refl _) _⟩

set_option maxHeartbeats 1000000 in
theorem runref_c (w : World) (tb sb n cap : Nat) (L : Nat → Fm) (f now : Int) (h : Tb w tb sb n cap L) :
    Calls Try.prog 21 #[.pointer (some ⟨tb, 0, none⟩), .int .i64 f, .int .i64 now] w fun e w' => e = .returned (.int .i64 (urE n L f)) ∧ Tb w' tb sb n cap (urL n L f now) ∧ w.grownBy w' (some sb) := by
  have H := Lib.hid h
  have hd := h.hd
  have hp := h.pos
  have hl := h.le
  by_cases hr : 0 ≤ f ∧ f < n
  · obtain ⟨k, rfl⟩ : ∃ k : Nat, f = k := ⟨f.toNat, by omega⟩
    obtain ⟨r0, r1⟩ := hr
    have hk : k < n := by omega
    have HC : Hid (inR n k = true) := decide_eq_true ⟨r0, r1⟩
    have e0 : urE n L k = if (L k).ct = 0 then 3 else 0 := by unfold urE; rw [if_pos ⟨r0, r1⟩]; rfl
    have c1 := h.c1 k hk
    have c2 := h.c2 k hk
    have f1 := h.fz (k * 4 + 1)
    have f2 := h.fz (k * 4 + 2)
    have hne := h.ne
    have lo := h.lo k hk
    have hi := h.hi k hk
    clear h
    by_cases ct0 : (L k).ct = 0
    · have e1 : urE n L k = 3 := by rw [e0, if_pos ct0]
      have e2 : urL n L k now = L := by unfold urL; rw [e1]; rfl
      rw [e1, e2]
      rw [ct0] at c1 lo hi
      clear e0 e1 e2 ct0
      go_enter Try.func21, Try.ntmps21
      go_wp2_with (go_at_call 27; refine (is_c _ tb sb n cap L _ H.out).mono ?_; rw [HC.out]; rintro e w' ⟨rfl, rfl⟩)
      go_ret
      exact ⟨rfl, H.out, grownBy_kept (Kept.refl _) _⟩
    · have e1 : urE n L k = 0 := by rw [e0, if_neg ct0]
      have b1 : ((L k).ct == 0) = false := by simp; exact ct0
      by_cases ct1 : (L k).ct = 1
      · have e2 : urL n L k now = upd L k { L k with ct := 0, fr := max (L k).fr now } := by
          unfold urL; rw [e1, if_pos rfl]
          simp only [Int.toNat_natCast]; rw [if_pos ct1, ct1]; rfl
        rw [e1, e2]
        have HT := Lib.hid (H.out.unr k hk 0 now (by omega) (by omega))
        rw [ct1] at c1
        clear e0 e1 e2 ct0 ct1 b1 lo hi
        by_cases hx : now ≤ (L k).fr
        · rw [show max (L k).fr now = (L k).fr from by omega] at HT ⊢
          go_enter Try.func21, Try.ntmps21
          go_wp2_with (go_at_call 27; refine (is_c _ tb sb n cap L _ H.out).mono ?_; rw [HC.out]; rintro e w' ⟨rfl, rfl⟩)
          go_region
          go_wp2
          go_ret
          exact ⟨rfl, HT.out.kept ((Kept.refl _).drew), ((grownBy_setCell w ⟨sb, k * 4 + 1, none⟩ _).trans (grownBy_setCell _ ⟨sb, k * 4 + 2, none⟩ _)).trans (grownBy_kept ((Kept.refl _).drew) _)⟩
        · rw [show max (L k).fr now = now from by omega] at HT ⊢
          go_enter Try.func21, Try.ntmps21
          go_wp2_with (go_at_call 27; refine (is_c _ tb sb n cap L _ H.out).mono ?_; rw [HC.out]; rintro e w' ⟨rfl, rfl⟩)
          go_region
          go_wp2
          go_ret
          exact ⟨rfl, HT.out.kept ((Kept.refl _).drew), ((grownBy_setCell w ⟨sb, k * 4 + 1, none⟩ _).trans (grownBy_setCell _ ⟨sb, k * 4 + 2, none⟩ _)).trans (grownBy_kept ((Kept.refl _).drew) _)⟩
      · have e2 : urL n L k now = upd L k { L k with ct := (L k).ct - 1 } := by
          unfold urL; rw [e1, if_pos rfl]
          simp only [Int.toNat_natCast]; rw [if_neg ct1]
        rw [e1, e2]
        have HT := Lib.hid (H.out.set1 k hk ((L k).ct - 1) (by omega) (by omega))
        have b2 : ((L k).ct - 1 == 0) = false := by simp; omega
        clear e0 e1 e2 ct0 ct1
        go_enter Try.func21, Try.ntmps21
        go_wp2_with (go_at_call 27; refine (is_c _ tb sb n cap L _ H.out).mono ?_; rw [HC.out]; rintro e w' ⟨rfl, rfl⟩)
        go_ret
        exact ⟨rfl, HT.out, grownBy_setCell w ⟨sb, k * 4 + 1, none⟩ _⟩
  · have e1 : urE n L f = 3 - 2 := if_neg hr
    have e2 : urL n L f now = L := by unfold urL; rw [e1]; rfl
    have HC : Hid (inR n f = false) := decide_eq_false hr
    rw [e1, e2]
    clear e1 e2 hr h
    go_enter Try.func21, Try.ntmps21
    go_wp2_with (go_at_call 27; refine (is_c _ tb sb n cap L _ H.out).mono ?_; rw [HC.out]; rintro e w' ⟨rfl, rfl⟩)
    go_ret
    exact ⟨rfl, H.out, grownBy_kept (Kept.refl _) _⟩
end Go.Proofs.Ytcmflbjaloandaa.C

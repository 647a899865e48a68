/- The contracts of package typ's methods: ref, unref, what is told of a frame. -/
import Derived.Test.YtcmflbjaloandaaD
namespace Go.Proofs.Ytcmflbjaloandaa.C
open Go.RowKit

set_option maxHeartbeats 1000000 in
theorem ref_c (w : World) (tb sb n cap : Nat) (L : Nat → Fm) (f : Int) (h : Tb w tb sb n cap L) :
    Calls Try.prog 9 #[.pointer (some ⟨tb, 0, none⟩), .int .i64 f] w fun e w' => e = .returned (.int .i64 (rfE n L f)) ∧ Tb w' tb sb n cap (rfL n L f) ∧ w.grownBy w' (some sb) := by
  have H := Lib.hid h
  have hd := h.hd
  have hp := h.pos
  have hl := h.le
  by_cases hr : 0 ≤ f ∧ f < n
  · obtain ⟨k, rfl⟩ : ∃ k : Nat, f = k := ⟨f.toNat, by omega⟩
    obtain ⟨r0, r1⟩ := hr
    have hk : k < n := by omega
    have HC : Hid (canE n k = 0) := if_pos ⟨r0, r1⟩
    have e0 : rfE n L k = if (L k).ty = 0 then 4 else if 1000 ≤ (L k).ct then 2 else 0 := by unfold rfE; rw [if_pos ⟨r0, r1⟩]; rfl
    have c0 := h.c0 k hk
    have c1 := h.c1 k hk
    have c2 := h.c2 k hk
    have c3 := h.c3 k hk
    have f1 := h.fz (k * 4 + 1)
    have hne := h.ne
    have hlt := h.lt
    have hlt2 := h.ltt
    have lo := h.lo k hk
    have hi := h.hi k hk
    clear h
    by_cases ty0 : (L k).ty = 0
    · have e1 : rfE n L k = 4 := by rw [e0, if_pos ty0]
      have e2 : rfL n L k = L := by unfold rfL; rw [e1]; rfl
      rw [e1, e2]
      rw [ty0] at c0
      clear e0 e1 e2 ty0
      go_enter Try.func9, Try.ntmps9
      go_wp2_with (go_at_call 23; refine (can_c _ tb sb n cap L _ H.out).mono ?_; rw [HC.out]; rintro e w' ⟨rfl, rfl⟩)
      go_ret
      exact ⟨rfl, H.out.kept ((Kept.refl _).alloc _), grownBy_kept ((Kept.refl _).alloc _) _⟩
    · have b0 : ((L k).ty == 0) = false := by simp; exact ty0
      by_cases ct0 : 1000 ≤ (L k).ct
      · have e1 : rfE n L k = 2 := by rw [e0, if_neg ty0, if_pos ct0]
        have e2 : rfL n L k = L := by unfold rfL; rw [e1]; rfl
        rw [e1, e2]
        clear e0 e1 e2 ty0
        generalize (L k).ty = x at c0 b0
        go_enter Try.func9, Try.ntmps9
        go_wp2_with (go_at_call 23; refine (can_c _ tb sb n cap L _ H.out).mono ?_; rw [HC.out]; rintro e w' ⟨rfl, rfl⟩)
        go_ret
        exact ⟨rfl, H.out.kept ((Kept.refl _).alloc _), grownBy_kept ((Kept.refl _).alloc _) _⟩
      · have e1 : rfE n L k = 0 := by rw [e0, if_neg ty0, if_neg ct0]
        have e2 : rfL n L k = upd L k { L k with ct := (L k).ct + 1 } := by unfold rfL; rw [e1]; rfl
        rw [e1, e2]
        clear e0 e1 e2 ty0
        generalize (L k).ty = x at c0 b0
        go_enter Try.func9, Try.ntmps9
        go_wp2_with (go_at_call 23; refine (can_c _ tb sb n cap L _ H.out).mono ?_; rw [HC.out]; rintro e w' ⟨rfl, rfl⟩)
        go_ret
        exact ⟨rfl, (H.out.set1 k hk ((L k).ct + 1) (by omega) (by omega)).kept ((Kept.refl _).alloc _), (grownBy_setCell w ⟨sb, k * 4 + 1, none⟩ _).trans (grownBy_kept ((Kept.refl _).alloc _) _)⟩
  · have e1 : rfE n L f = 1 := if_neg hr
    have e2 : rfL n L f = L := by unfold rfL; rw [e1]; rfl
    have HC : Hid (canE n f = 1) := if_neg hr
    rw [e1, e2]
    clear e1 e2 hr h
    go_enter Try.func9, Try.ntmps9
    go_wp2_with (go_at_call 23; refine (can_c _ tb sb n cap L _ H.out).mono ?_; rw [HC.out]; rintro e w' ⟨rfl, rfl⟩)
    go_ret
    exact ⟨rfl, H.out, grownBy_kept (Kept.refl _) _⟩

theorem Tb.unr {w : World} {tb sb n cap : Nat} {L : Nat → Fm} (h : Tb w tb sb n cap L) (k : Nat) (hk : k < n) (c now : Int) (h0 : 0 ≤ c) (h1 : c ≤ 1000) :
    Tb ((w.setCell ⟨sb, k * 4 + 1, none⟩ (.int .i64 c)).setCell ⟨sb, k * 4 + 2, none⟩ (.int .i64 (max (L k).fr now))) tb sb n cap (upd L k { L k with ct := c, fr := max (L k).fr now }) := by
  have h3 := (h.set1 k hk c h0 h1).set2 k hk (max (L k).fr now)
  simp only [upd_upd, upd_at] at h3
  exact h3

set_option maxHeartbeats 1000000 in
theorem unref_c (w : World) (tb sb n cap : Nat) (L : Nat → Fm) (f now : Int) (h : Tb w tb sb n cap L) :
    Calls Try.prog 10 #[.pointer (some ⟨tb, 0, none⟩), .int .i64 f, .int .i64 now] w fun e w' => e = .returned (.int .i64 (urE n L f)) ∧ Tb w' tb sb n cap (urL n L f now) ∧ w.grownBy w' (some sb) := by
  have H := Lib.hid h
  have hd := h.hd
  have hp := h.pos
  have hl := h.le
  by_cases hr : 0 ≤ f ∧ f < n
  · obtain ⟨k, rfl⟩ : ∃ k : Nat, f = k := ⟨f.toNat, by omega⟩
    obtain ⟨r0, r1⟩ := hr
    have hk : k < n := by omega
    have HC : Hid (canE n k = 0) := if_pos ⟨r0, r1⟩
    have e0 : urE n L k = if (L k).ct = 0 then 3 else 0 := by unfold urE; rw [if_pos ⟨r0, r1⟩]; rfl
    have c1 := h.c1 k hk
    have c2 := h.c2 k hk
    have f1 := h.fz (k * 4 + 1)
    have f2 := h.fz (k * 4 + 2)
    have hne := h.ne
    have lo := h.lo k hk
    have hi := h.hi k hk
    clear h
    by_cases ct0 : (L k).ct = 0
    · have e1 : urE n L k = 3 := by rw [e0, if_pos ct0]
      have e2 : urL n L k now = L := by unfold urL; rw [e1]; rfl
      rw [e1, e2]
      rw [ct0] at c1 lo hi
      clear e0 e1 e2 ct0
      go_enter Try.func10, Try.ntmps10
      go_wp2_with (go_at_call 23; refine (can_c _ tb sb n cap L _ H.out).mono ?_; rw [HC.out]; rintro e w' ⟨rfl, rfl⟩)
      go_ret
      exact ⟨rfl, H.out, grownBy_kept (Kept.refl _) _⟩
    · have e1 : urE n L k = 0 := by rw [e0, if_neg ct0]
      have b1 : ((L k).ct == 0) = false := by simp; exact ct0
      by_cases ct1 : (L k).ct = 1
      · have e2 : urL n L k now = upd L k { L k with ct := 0, fr := max (L k).fr now } := by
          unfold urL; rw [e1, if_pos rfl]
          simp only [Int.toNat_natCast]; rw [if_pos ct1, ct1]; rfl
        rw [e1, e2]
        have HT := Lib.hid (H.out.unr k hk 0 now (by omega) (by omega))
        rw [ct1] at c1
        clear e0 e1 e2 ct0 ct1 b1 lo hi
        go_enter Try.func10, Try.ntmps10
        go_wp2_with (first | (go_at_call 23; refine (can_c _ tb sb n cap L _ H.out).mono ?_; rw [HC.out]; rintro e w' ⟨rfl, rfl⟩) | (go_at_call 24; refine (free_c _ sb k (L k).fr now (by exact (World.cell?_setCell_other _ _ _ _ (addr_ne (.inr (by omega)))).trans c2) (by simp only [World.frozen?_setCell]; exact f2)).mono ?_; rintro e w' ⟨rfl, rfl⟩))
        go_ret
        exact ⟨rfl, HT.out, (grownBy_setCell w ⟨sb, k * 4 + 1, none⟩ _).trans (grownBy_setCell _ ⟨sb, k * 4 + 2, none⟩ _)⟩
      · have e2 : urL n L k now = upd L k { L k with ct := (L k).ct - 1 } := by
          unfold urL; rw [e1, if_pos rfl]
          simp only [Int.toNat_natCast]; rw [if_neg ct1]
        rw [e1, e2]
        have HT := Lib.hid (H.out.set1 k hk ((L k).ct - 1) (by omega) (by omega))
        have b2 : ((L k).ct - 1 == 0) = false := by simp; omega
        clear e0 e1 e2 ct0 ct1
        go_enter Try.func10, Try.ntmps10
        go_wp2_with (first | (go_at_call 23; refine (can_c _ tb sb n cap L _ H.out).mono ?_; rw [HC.out]; rintro e w' ⟨rfl, rfl⟩))
        go_ret
        exact ⟨rfl, HT.out, grownBy_setCell w ⟨sb, k * 4 + 1, none⟩ _⟩
  · have e1 : urE n L f = 1 := if_neg hr
    have e2 : urL n L f now = L := by unfold urL; rw [e1]; rfl
    have HC : Hid (canE n f = 1) := if_neg hr
    rw [e1, e2]
    clear e1 e2 hr h
    go_enter Try.func10, Try.ntmps10
    go_wp2_with (go_at_call 23; refine (can_c _ tb sb n cap L _ H.out).mono ?_; rw [HC.out]; rintro e w' ⟨rfl, rfl⟩)
    go_ret
    exact ⟨rfl, H.out, grownBy_kept (Kept.refl _) _⟩

def aggF (x : Fm) : Value := .agg #[.int .i64 x.ty, .int .i64 x.ct, .int .i64 x.fr, .int .i64 x.wa]
theorem fresh_c (w : World) : Calls Try.prog 26 #[] w fun e w' => e = .returned (.agg #[.int .i64 0, .int .i64 0, .int .i64 (-1), .int .i64 0]) ∧ w.alloc (.cells #[.int .i64 0, .int .i64 0, .int .i64 (-1), .int .i64 0] 52) = w' := by
  go_enter Try.func26, Try.ntmps26
  go_wp2
  exact bodyPost_ret (v := .agg #[.int .i64 0, .int .i64 0, .int .i64 (-1), .int .i64 0]) (by simp [results, Try.results26, go_sem]) rfl ⟨rfl, rfl⟩
theorem of_c (w : World) (tb sb n cap : Nat) (L : Nat → Fm) (f : Int) (h : Tb w tb sb n cap L) :
    Calls Try.prog 25 #[.pointer (some ⟨tb, 0, none⟩), .int .i64 f] w fun e w' => e = .returned (.agg #[.int .i64 (getF n L f).ty, .int .i64 (getF n L f).ct, .int .i64 (getF n L f).fr, .int .i64 (getF n L f).wa]) ∧ Kept w w' := by
  have H := Lib.hid h
  have hd := h.hd
  have hp := h.pos
  have hl := h.le
  by_cases hr : 0 ≤ f ∧ f < n
  · obtain ⟨k, rfl⟩ : ∃ k : Nat, f = k := ⟨f.toNat, by omega⟩
    obtain ⟨r0, r1⟩ := hr
    have hk : k < n := by omega
    have HC : Hid (canE n k = 0) := if_pos ⟨r0, r1⟩
    have e0 : getF n L k = L k := by unfold getF; rw [if_pos ⟨r0, r1⟩]; rfl
    rw [e0]
    have c0 := h.c0 k hk
    have c1 := h.c1 k hk
    have c2 := h.c2 k hk
    have c3 := h.c3 k hk
    have hlt := h.lt
    have hlt2 := h.ltt
    clear h e0
    go_enter Try.func25, Try.ntmps25
    go_wp2_with (go_at_call 23; refine (can_c _ tb sb n cap L _ (H.out.kept ((Kept.refl _).alloc _))).mono ?_; rw [HC.out]; rintro e w' ⟨rfl, rfl⟩)
    exact bodyPost_ret (v := .agg #[.int .i64 (L k).ty, .int .i64 (L k).ct, .int .i64 (L k).fr, .int .i64 (L k).wa]) (by simp [results, Try.results25, go_sem]) rfl ⟨rfl, (Kept.refl _).alloc _⟩
  · have e0 : getF n L f = fresh := if_neg hr
    have HC : Hid (canE n f = 1) := if_neg hr
    rw [e0]
    have hlt := h.lt
    have hlt2 := h.ltt
    clear h e0
    go_enter Try.func25, Try.ntmps25
    go_wp2_with (first | (go_at_call 23; refine (can_c _ tb sb n cap L _ (H.out.kept ((Kept.refl _).alloc _))).mono ?_; rw [HC.out]; rintro e w' ⟨rfl, rfl⟩) | (go_at_call 26; refine (fresh_c _).mono ?_; rintro e w' ⟨rfl, rfl⟩))
    refine bodyPost_ret (v := .agg #[.int .i64 0, .int .i64 0, .int .i64 (-1), .int .i64 0]) (by simp [results, Try.results25, go_sem]) rfl ⟨rfl, ?_⟩
    exact ((Kept.refl _).alloc _).alloc _

theorem fld0 (a b c d : Int) (w : World) : (Instr.field 52 (.agg #[.int .i64 a, .int .i64 b, .int .i64 c, .int .i64 d]) 0).run Try.prog w = .ok (.int .i64 a) w := by kernel_rfl
theorem fld1 (a b c d : Int) (w : World) : (Instr.field 52 (.agg #[.int .i64 a, .int .i64 b, .int .i64 c, .int .i64 d]) 1).run Try.prog w = .ok (.int .i64 b) w := by kernel_rfl
theorem fld2 (a b c d : Int) (w : World) : (Instr.field 52 (.agg #[.int .i64 a, .int .i64 b, .int .i64 c, .int .i64 d]) 2).run Try.prog w = .ok (.int .i64 c) w := by kernel_rfl
theorem fld3 (a b c d : Int) (w : World) : (Instr.field 52 (.agg #[.int .i64 a, .int .i64 b, .int .i64 c, .int .i64 d]) 3).run Try.prog w = .ok (.int .i64 d) w := by kernel_rfl

theorem type_c (w : World) (tb sb n cap : Nat) (L : Nat → Fm) (f : Int) (h : Tb w tb sb n cap L) :
    Calls Try.prog 11 #[.pointer (some ⟨tb, 0, none⟩), .int .i64 f] w fun e w' => e = .returned (.int .i64 (getF n L f).ty) ∧ Kept w w' := by
  have H := Lib.hid h
  clear h
  have hf := fld0
  go_enter Try.func11, Try.ntmps11
  go_wp2_with (go_at_call 25; refine (of_c _ tb sb n cap L _ H.out).mono ?_; rintro e w1 ⟨rfl, hk1⟩)
  go_ret
  exact ⟨rfl, hk1⟩

theorem count_c (w : World) (tb sb n cap : Nat) (L : Nat → Fm) (f : Int) (h : Tb w tb sb n cap L) :
    Calls Try.prog 12 #[.pointer (some ⟨tb, 0, none⟩), .int .i64 f] w fun e w' => e = .returned (.int .i64 (getF n L f).ct) ∧ Kept w w' := by
  have H := Lib.hid h
  clear h
  have hf := fld1
  go_enter Try.func12, Try.ntmps12
  go_wp2_with (go_at_call 25; refine (of_c _ tb sb n cap L _ H.out).mono ?_; rintro e w1 ⟨rfl, hk1⟩)
  go_ret
  exact ⟨rfl, hk1⟩

theorem freed_c (w : World) (tb sb n cap : Nat) (L : Nat → Fm) (f : Int) (h : Tb w tb sb n cap L) :
    Calls Try.prog 13 #[.pointer (some ⟨tb, 0, none⟩), .int .i64 f] w fun e w' => e = .returned (.int .i64 (getF n L f).fr) ∧ Kept w w' := by
  have H := Lib.hid h
  clear h
  have hf := fld2
  go_enter Try.func13, Try.ntmps13
  go_wp2_with (go_at_call 25; refine (of_c _ tb sb n cap L _ H.out).mono ?_; rintro e w1 ⟨rfl, hk1⟩)
  go_ret
  exact ⟨rfl, hk1⟩

theorem was_c (w : World) (tb sb n cap : Nat) (L : Nat → Fm) (f : Int) (h : Tb w tb sb n cap L) :
    Calls Try.prog 14 #[.pointer (some ⟨tb, 0, none⟩), .int .i64 f] w fun e w' => e = .returned (.int .i64 (getF n L f).wa) ∧ Kept w w' := by
  have H := Lib.hid h
  clear h
  have hf := fld3
  go_enter Try.func14, Try.ntmps14
  go_wp2_with (go_at_call 25; refine (of_c _ tb sb n cap L _ H.out).mono ?_; rintro e w1 ⟨rfl, hk1⟩)
  go_ret
  exact ⟨rfl, hk1⟩
end Go.Proofs.Ytcmflbjaloandaa.C

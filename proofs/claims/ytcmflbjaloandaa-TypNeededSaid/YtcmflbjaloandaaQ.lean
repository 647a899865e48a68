/- The reference's methods. -/
import Derived.Test.YtcmflbjaloandaaE
import Derived.Deep.RegionHeld3
namespace Go.Proofs.Ytcmflbjaloandaa.C
open Go.RowKit

theorem is_c (w : World) (tb sb n cap : Nat) (L : Nat → Fm) (f : Int) (h : Tb w tb sb n cap L) :
    Calls Try.prog 27 #[.pointer (some ⟨tb, 0, none⟩), .int .i64 f] w fun e w' => e = .returned (.bool (inR n f)) ∧ w = w' := by
  have hd := h.hd
  have hp := h.pos
  have hl := h.le
  clear h
  by_cases h1 : 0 ≤ f
  · by_cases h2 : f < n
    · rw [show inR n f = true from decide_eq_true ⟨h1, h2⟩]
      go_enter Try.func27, Try.ntmps27
      go_wp2
      go_ret
      exact ⟨rfl, rfl⟩
    · rw [show inR n f = false from decide_eq_false (by omega)]
      go_enter Try.func27, Try.ntmps27
      go_wp2
      go_ret
      exact ⟨rfl, rfl⟩
  · rw [show inR n f = false from decide_eq_false (by omega)]
    go_enter Try.func27, Try.ntmps27
    go_wp2
    go_ret
    exact ⟨rfl, rfl⟩

theorem rretype_c (w : World) (tb sb n cap : Nat) (L : Nat → Fm) (f to : Int) (q : Bool) (h : Tb w tb sb n cap L) :
    Calls Try.prog 18 #[.pointer (some ⟨tb, 0, none⟩), .int .i64 f, .int .i64 to, .bool q] w fun e w' => e = .returned (.int .i64 (rtE n L f to q)) ∧ Tb w' tb sb n cap (rtL n L f to q) ∧ w.grownBy w' (some sb) := by
  have H := Lib.hid h
  have hd := h.hd
  have hp := h.pos
  have hl := h.le
  by_cases hr : 0 ≤ f ∧ f < n
  · obtain ⟨k, rfl⟩ : ∃ k : Nat, f = k := ⟨f.toNat, by omega⟩
    obtain ⟨r0, r1⟩ := hr
    have hk : k < n := by omega
    have HC : Hid (inR n k = true) := decide_eq_true ⟨r0, r1⟩
    have e0 : rtE n L k to q = rtOk (L k) to q := by unfold rtE; rw [if_pos ⟨r0, r1⟩]; rfl
    have c0 := h.c0 k hk
    have f0 := h.fz (k * 4)
    have hne := h.ne
    clear h
    by_cases t1 : to = 1 ∨ to = 2
    · have hto : ¬ (to ≠ 1 ∧ to ≠ 2) := by omega
      by_cases ty0 : (L k).ty = 0
      · cases q
        · have e1 : rtE n L k to false = 6 := by rw [e0]; unfold rtOk; rw [if_neg hto, if_neg (by omega)]; rfl
          have e2 : rtL n L k to false = L := by unfold rtL; rw [e1]; rfl
          rw [e1, e2]
          rw [ty0] at c0
          clear e0 e1 e2 ty0 hto
          rcases t1 with rfl | rfl
          all_goals
            go_enter Try.func18, Try.ntmps18
            go_wp2_with (go_at_call 27; refine (is_c _ tb sb n cap L _ H.out).mono ?_; rw [HC.out]; rintro e w' ⟨rfl, rfl⟩)
            go_ret
            exact ⟨rfl, H.out, grownBy_kept (Kept.refl _) _⟩
        · have e1 : rtE n L k to true = 0 := by rw [e0]; unfold rtOk; rw [if_neg hto, if_neg (by omega)]; rfl
          have e2 : rtL n L k to true = upd L k { L k with ty := to } := by unfold rtL; rw [e1]; rfl
          rw [e1, e2]
          rw [ty0] at c0
          clear e0 e1 e2 ty0 hto
          rcases t1 with rfl | rfl
          all_goals
            go_enter Try.func18, Try.ntmps18
            go_wp2_with (go_at_call 27; refine (is_c _ tb sb n cap L _ H.out).mono ?_; rw [HC.out]; rintro e w' ⟨rfl, rfl⟩)
            go_ret
            exact ⟨rfl, H.out.set0 k hk _, grownBy_setCell w ⟨sb, k * 4, none⟩ _⟩
      · have e1 : rtE n L k to q = 4 := by rw [e0]; unfold rtOk; rw [if_neg hto, if_pos ty0]
        have e2 : rtL n L k to q = L := by unfold rtL; rw [e1]; rfl
        rw [e1, e2]
        have b1 : ((L k).ty != 0) = true := by simp; exact ty0
        clear e0 e1 e2 ty0 hto
        generalize (L k).ty = x at c0 b1
        rcases t1 with rfl | rfl
        all_goals
          go_enter Try.func18, Try.ntmps18
          go_wp2_with (go_at_call 27; refine (is_c _ tb sb n cap L _ H.out).mono ?_; rw [HC.out]; rintro e w' ⟨rfl, rfl⟩)
          go_ret
          exact ⟨rfl, H.out, grownBy_kept (Kept.refl _) _⟩
    · have hto : to ≠ 1 ∧ to ≠ 2 := by omega
      have e1 : rtE n L k to q = 1 := by rw [e0]; unfold rtOk; rw [if_pos hto]
      have e2 : rtL n L k to q = L := by unfold rtL; rw [e1]; rfl
      rw [e1, e2]
      have b1 : (to != 1) = true := by simp; omega
      have b2 : (to != 2) = true := by simp; omega
      clear e0 e1 e2 hto t1
      go_enter Try.func18, Try.ntmps18
      go_wp2_with (go_at_call 27; refine (is_c _ tb sb n cap L _ H.out).mono ?_; rw [HC.out]; rintro e w' ⟨rfl, rfl⟩)
      go_ret
      exact ⟨rfl, H.out, grownBy_kept (Kept.refl _) _⟩
  · have e1 : rtE n L f to q = 1 := if_neg hr
    have e2 : rtL n L f to q = L := by unfold rtL; rw [e1]; rfl
    have HC : Hid (inR n f = false) := decide_eq_false hr
    rw [e1, e2]
    clear e1 e2 hr h
    go_enter Try.func18, Try.ntmps18
    go_wp2_with (go_at_call 27; refine (is_c _ tb sb n cap L _ H.out).mono ?_; rw [HC.out]; rintro e w' ⟨rfl, rfl⟩)
    go_ret
    exact ⟨rfl, H.out, grownBy_kept (Kept.refl _) _⟩

set_option maxHeartbeats 1000000 in
theorem rref_c (w : World) (tb sb n cap : Nat) (L : Nat → Fm) (f : Int) (h : Tb w tb sb n cap L) :
    Calls Try.prog 20 #[.pointer (some ⟨tb, 0, none⟩), .int .i64 f] w fun e w' => e = .returned (.int .i64 (rfE n L f)) ∧ Tb w' tb sb n cap (rfL n L f) ∧ w.grownBy w' (some sb) := by
  have H := Lib.hid h
  have hd := h.hd
  have hp := h.pos
  have hl := h.le
  by_cases hr : 0 ≤ f ∧ f < n
  · obtain ⟨k, rfl⟩ : ∃ k : Nat, f = k := ⟨f.toNat, by omega⟩
    obtain ⟨r0, r1⟩ := hr
    have hk : k < n := by omega
    have HC : Hid (inR n k = true) := decide_eq_true ⟨r0, r1⟩
    have e0 : rfE n L k = if (L k).ty = 0 then 4 else if 1000 ≤ (L k).ct then 2 else 0 := by unfold rfE; rw [if_pos ⟨r0, r1⟩]; rfl
    have c0 := h.c0 k hk
    have c1 := h.c1 k hk
    have f1 := h.fz (k * 4 + 1)
    have hne := h.ne
    have lo := h.lo k hk
    have hi := h.hi k hk
    clear h
    by_cases ty0 : (L k).ty = 0
    · have e1 : rfE n L k = 4 := by rw [e0, if_pos ty0]
      have e2 : rfL n L k = L := by unfold rfL; rw [e1]; rfl
      rw [e1, e2]
      rw [ty0] at c0
      clear e0 e1 e2 ty0
      go_enter Try.func20, Try.ntmps20
      go_wp2_with (go_at_call 27; refine (is_c _ tb sb n cap L _ H.out).mono ?_; rw [HC.out]; rintro e w' ⟨rfl, rfl⟩)
      go_ret
      exact ⟨rfl, H.out, grownBy_kept (Kept.refl _) _⟩
    · have b0 : ((L k).ty == 0) = false := by simp; exact ty0
      by_cases ct0 : 1000 ≤ (L k).ct
      · have e1 : rfE n L k = 2 := by rw [e0, if_neg ty0, if_pos ct0]
        have e2 : rfL n L k = L := by unfold rfL; rw [e1]; rfl
        rw [e1, e2]
        clear e0 e1 e2 ty0
        generalize (L k).ty = x at c0 b0
        go_enter Try.func20, Try.ntmps20
        go_wp2_with (go_at_call 27; refine (is_c _ tb sb n cap L _ H.out).mono ?_; rw [HC.out]; rintro e w' ⟨rfl, rfl⟩)
        go_ret
        exact ⟨rfl, H.out, grownBy_kept (Kept.refl _) _⟩
      · have e1 : rfE n L k = 0 := by rw [e0, if_neg ty0, if_neg ct0]
        have e2 : rfL n L k = upd L k { L k with ct := (L k).ct + 1 } := by unfold rfL; rw [e1]; rfl
        rw [e1, e2]
        clear e0 e1 e2 ty0
        generalize (L k).ty = x at c0 b0
        go_enter Try.func20, Try.ntmps20
        go_wp2_with (go_at_call 27; refine (is_c _ tb sb n cap L _ H.out).mono ?_; rw [HC.out]; rintro e w' ⟨rfl, rfl⟩)
        go_ret
        exact ⟨rfl, H.out.set1 k hk ((L k).ct + 1) (by omega) (by omega), grownBy_setCell w ⟨sb, k * 4 + 1, none⟩ _⟩
  · have e1 : rfE n L f = 1 := if_neg hr
    have e2 : rfL n L f = L := by unfold rfL; rw [e1]; rfl
    have HC : Hid (inR n f = false) := decide_eq_false hr
    rw [e1, e2]
    clear e1 e2 hr h
    go_enter Try.func20, Try.ntmps20
    go_wp2_with (go_at_call 27; refine (is_c _ tb sb n cap L _ H.out).mono ?_; rw [HC.out]; rintro e w' ⟨rfl, rfl⟩)
    go_ret
    exact ⟨rfl, H.out, grownBy_kept (Kept.refl _) _⟩

theorem rof_c (w : World) (tb sb n cap : Nat) (L : Nat → Fm) (f : Int) (h : Tb w tb sb n cap L) :
    Calls Try.prog 22 #[.pointer (some ⟨tb, 0, none⟩), .int .i64 f] w fun e w' => e = .returned (.agg #[.int .i64 (getF n L f).ty, .int .i64 (getF n L f).ct, .int .i64 (getF n L f).fr, .int .i64 (getF n L f).wa]) ∧ Kept w w' := by
  have H := Lib.hid h
  have hd := h.hd
  have hp := h.pos
  have hl := h.le
  have hlt := h.lt
  have hlt2 := h.ltt
  by_cases hr : 0 ≤ f ∧ f < n
  · obtain ⟨k, rfl⟩ : ∃ k : Nat, f = k := ⟨f.toNat, by omega⟩
    obtain ⟨r0, r1⟩ := hr
    have hk : k < n := by omega
    have HC : Hid (inR n k = true) := decide_eq_true ⟨r0, r1⟩
    have e0 : getF n L k = L k := by unfold getF; rw [if_pos ⟨r0, r1⟩]; rfl
    rw [e0]
    have c0 := h.c0 k hk
    have c1 := h.c1 k hk
    have c2 := h.c2 k hk
    have c3 := h.c3 k hk
    clear h e0
    go_enter Try.func22, Try.ntmps22
    go_wp2_with (go_at_call 27; refine (is_c _ tb sb n cap L _ (H.out.kept ((Kept.refl _).alloc _))).mono ?_; rw [HC.out]; rintro e w' ⟨rfl, rfl⟩)
    refine bodyPost_ret (v := .agg #[.int .i64 (L k).ty, .int .i64 (L k).ct, .int .i64 (L k).fr, .int .i64 (L k).wa]) (by simp [results, Try.results22, go_sem]) rfl ⟨rfl, ?_⟩
    repeat (first | exact Kept.refl _ | apply Kept.alloc | (refine Kept.setCell ?_ (by simp) _))
  · have e0 : getF n L f = fresh := if_neg hr
    have HC : Hid (inR n f = false) := decide_eq_false hr
    rw [e0]
    clear h e0
    go_enter Try.func22, Try.ntmps22
    go_wp2_with (go_at_call 27; refine (is_c _ tb sb n cap L _ (H.out.kept ((Kept.refl _).alloc _))).mono ?_; rw [HC.out]; rintro e w' ⟨rfl, rfl⟩)
    refine bodyPost_ret (v := .agg #[.int .i64 0, .int .i64 0, .int .i64 (-1), .int .i64 0]) (by simp [results, Try.results22, go_sem]) rfl ⟨rfl, ?_⟩
    repeat (first | exact Kept.refl _ | apply Kept.alloc | (refine Kept.setCell ?_ (by simp) _))
end Go.Proofs.Ytcmflbjaloandaa.C

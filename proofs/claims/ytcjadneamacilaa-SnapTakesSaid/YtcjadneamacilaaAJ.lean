/- typ.Retype, typ.Ref, and the reference of typ. -/
import Derived.Test.YtcjadneamacilaaC
namespace Go.Proofs.Ytcjadneamacilaa.C
open Go.RowKit

theorem retype_c (w : World) (tb sb n cap : Nat) (L : Nat → Fm) (f to : Int) (q : Bool) (h : Tb w tb sb n cap L) :
    Calls Try.prog 13 #[.pointer (some ⟨tb, 0, none⟩), .int .i64 f, .int .i64 to, .bool q] w fun e w' => e = .returned (.int .i64 (rtE n L f to q)) ∧ Tb w' tb sb n cap (rtL n L f to q) ∧ w.grownBy w' (some sb) := by
  have H := Lib.hid h
  have hd := h.hd
  have hp := h.pos
  have hl := h.le
  by_cases hr : 0 ≤ f ∧ f < n
  · obtain ⟨k, rfl⟩ : ∃ k : Nat, f = k := ⟨f.toNat, by omega⟩
    obtain ⟨r0, r1⟩ := hr
    have hk : k < n := by omega
    have HC : Hid (canE n k = 0) := if_pos ⟨r0, r1⟩
    have e0 : rtE n L k to q = rtOk (L k) to q := by unfold rtE; rw [if_pos ⟨r0, r1⟩]; rfl
    have c0 := h.c0 k hk
    have f0 := h.fz (k * 4)
    have hne := h.ne
    clear h
    by_cases t1 : to = 1 ∨ to = 2
    · have hto : ¬ (to ≠ 1 ∧ to ≠ 2) := by omega
      by_cases ty0 : (L k).ty = 0
      · cases q
        · have e1 : rtE n L k to false = 6 := by rw [e0]; unfold rtOk; rw [if_neg hto, if_neg (by omega)]; rfl
          have e2 : rtL n L k to false = L := by unfold rtL; rw [e1]; rfl
          rw [e1, e2]
          rw [ty0] at c0
          clear e0 e1 e2 ty0 hto
          rcases t1 with rfl | rfl
          all_goals
            go_enter Try.func13, Try.ntmps13
            go_wp2_with (go_at_call 54; refine (can_c _ tb sb n cap L _ H.out).mono ?_; rw [HC.out]; rintro e w' ⟨rfl, rfl⟩)
            go_ret
            exact ⟨rfl, H.out, grownBy_kept (Kept.refl _) _⟩
        · have e1 : rtE n L k to true = 0 := by rw [e0]; unfold rtOk; rw [if_neg hto, if_neg (by omega)]; rfl
          have e2 : rtL n L k to true = upd L k { L k with ty := to } := by unfold rtL; rw [e1]; rfl
          rw [e1, e2]
          rw [ty0] at c0
          clear e0 e1 e2 ty0 hto
          rcases t1 with rfl | rfl
          all_goals
            go_enter Try.func13, Try.ntmps13
            go_wp2_with (go_at_call 54; refine (can_c _ tb sb n cap L _ H.out).mono ?_; rw [HC.out]; rintro e w' ⟨rfl, rfl⟩)
            go_ret
            exact ⟨rfl, H.out.set0 k hk _, grownBy_setCell w ⟨sb, k * 4, none⟩ _⟩
      · have e1 : rtE n L k to q = 4 := by rw [e0]; unfold rtOk; rw [if_neg hto, if_pos ty0]
        have e2 : rtL n L k to q = L := by unfold rtL; rw [e1]; rfl
        rw [e1, e2]
        have b1 : ((L k).ty != 0) = true := by simp; exact ty0
        clear e0 e1 e2 ty0 hto
        generalize (L k).ty = x at c0 b1
        rcases t1 with rfl | rfl
        all_goals
          go_enter Try.func13, Try.ntmps13
          go_wp2_with (go_at_call 54; refine (can_c _ tb sb n cap L _ H.out).mono ?_; rw [HC.out]; rintro e w' ⟨rfl, rfl⟩)
          go_ret
          exact ⟨rfl, H.out, grownBy_kept (Kept.refl _) _⟩
    · have hto : to ≠ 1 ∧ to ≠ 2 := by omega
      have e1 : rtE n L k to q = 1 := by rw [e0]; unfold rtOk; rw [if_pos hto]
      have e2 : rtL n L k to q = L := by unfold rtL; rw [e1]; rfl
      rw [e1, e2]
      have b1 : (to == 1) = false := by simp; omega
      have b2 : (to == 2) = false := by simp; omega
      clear e0 e1 e2 hto t1
      go_enter Try.func13, Try.ntmps13
      go_wp2_with (go_at_call 54; refine (can_c _ tb sb n cap L _ H.out).mono ?_; rw [HC.out]; rintro e w' ⟨rfl, rfl⟩)
      go_ret
      exact ⟨rfl, H.out, grownBy_kept (Kept.refl _) _⟩
  · have e1 : rtE n L f to q = 1 := if_neg hr
    have e2 : rtL n L f to q = L := by unfold rtL; rw [e1]; rfl
    have HC : Hid (canE n f = 1) := if_neg hr
    rw [e1, e2]
    clear e1 e2 hr h
    go_enter Try.func13, Try.ntmps13
    go_wp2_with (go_at_call 54; refine (can_c _ tb sb n cap L _ H.out).mono ?_; rw [HC.out]; rintro e w' ⟨rfl, rfl⟩)
    go_ret
    exact ⟨rfl, H.out, grownBy_kept (Kept.refl _) _⟩

set_option maxRecDepth 100000 in
set_option maxHeartbeats 1000000 in
theorem tref_c (w : World) (tb sb n cap : Nat) (L : Nat → Fm) (f : Int) (h : Tb w tb sb n cap L) :
    Calls Try.prog 15 #[.pointer (some ⟨tb, 0, none⟩), .int .i64 f] w fun e w' => e = .returned (.int .i64 (rfE n L f)) ∧ Tb w' tb sb n cap (rfL n L f) ∧ w.grownBy w' (some sb) := by
  have H := Lib.hid h
  have hd := h.hd
  have hp := h.pos
  have hl := h.le
  by_cases hr : 0 ≤ f ∧ f < n
  · obtain ⟨k, rfl⟩ : ∃ k : Nat, f = k := ⟨f.toNat, by omega⟩
    obtain ⟨r0, r1⟩ := hr
    have hk : k < n := by omega
    have HC : Hid (canE n k = 0) := if_pos ⟨r0, r1⟩
    have e0 : rfE n L k = if (L k).ty = 0 then 4 else if 1000 ≤ (L k).ct then 2 else 0 := by unfold rfE; rw [if_pos ⟨r0, r1⟩]; rfl
    have c0 := h.c0 k hk
    have c1 := h.c1 k hk
    have c2 := h.c2 k hk
    have c3 := h.c3 k hk
    have f1 := h.fz (k * 4 + 1)
    have hne := h.ne
    have hlt := h.lt
    have hlt2 := h.ltt
    have lo := h.lo k hk
    have hi := h.hi k hk
    clear h
    by_cases ty0 : (L k).ty = 0
    · have e1 : rfE n L k = 4 := by rw [e0, if_pos ty0]
      have e2 : rfL n L k = L := by unfold rfL; rw [e1]; rfl
      rw [e1, e2]
      rw [ty0] at c0
      clear e0 e1 e2 ty0
      go_enter Try.func15, Try.ntmps15
      go_wp2_with (go_at_call 54; refine (can_c _ tb sb n cap L _ H.out).mono ?_; rw [HC.out]; rintro e w' ⟨rfl, rfl⟩)
      go_ret
      exact ⟨rfl, H.out.kept ((Kept.refl _).alloc _), grownBy_kept ((Kept.refl _).alloc _) _⟩
    · have b0 : ((L k).ty == 0) = false := by simp; exact ty0
      by_cases ct0 : 1000 ≤ (L k).ct
      · have e1 : rfE n L k = 2 := by rw [e0, if_neg ty0, if_pos ct0]
        have e2 : rfL n L k = L := by unfold rfL; rw [e1]; rfl
        rw [e1, e2]
        clear e0 e1 e2 ty0
        generalize (L k).ty = x at c0 b0
        go_enter Try.func15, Try.ntmps15
        go_wp2_with (go_at_call 54; refine (can_c _ tb sb n cap L _ H.out).mono ?_; rw [HC.out]; rintro e w' ⟨rfl, rfl⟩)
        go_ret
        exact ⟨rfl, H.out.kept ((Kept.refl _).alloc _), grownBy_kept ((Kept.refl _).alloc _) _⟩
      · have e1 : rfE n L k = 0 := by rw [e0, if_neg ty0, if_neg ct0]
        have e2 : rfL n L k = upd L k { L k with ct := (L k).ct + 1 } := by unfold rfL; rw [e1]; rfl
        rw [e1, e2]
        clear e0 e1 e2 ty0
        generalize (L k).ty = x at c0 b0
        go_enter Try.func15, Try.ntmps15
        go_wp2_with (go_at_call 54; refine (can_c _ tb sb n cap L _ H.out).mono ?_; rw [HC.out]; rintro e w' ⟨rfl, rfl⟩)
        go_ret
        exact ⟨rfl, (H.out.set1 k hk ((L k).ct + 1) (by omega) (by omega)).kept ((Kept.refl _).alloc _), (grownBy_setCell w ⟨sb, k * 4 + 1, none⟩ _).trans (grownBy_kept ((Kept.refl _).alloc _) _)⟩
  · have e1 : rfE n L f = 1 := if_neg hr
    have e2 : rfL n L f = L := by unfold rfL; rw [e1]; rfl
    have HC : Hid (canE n f = 1) := if_neg hr
    rw [e1, e2]
    clear e1 e2 hr h
    go_enter Try.func15, Try.ntmps15
    go_wp2_with (go_at_call 54; refine (can_c _ tb sb n cap L _ H.out).mono ?_; rw [HC.out]; rintro e w' ⟨rfl, rfl⟩)
    go_ret
    exact ⟨rfl, H.out, grownBy_kept (Kept.refl _) _⟩

theorem ris_c (w : World) (tb sb n cap : Nat) (L : Nat → Fm) (f : Int) (h : Tb w tb sb n cap L) :
    Calls Try.prog 55 #[.pointer (some ⟨tb, 0, none⟩), .int .i64 f] w fun e w' => e = .returned (.bool (inR n f)) ∧ w = w' := by
  have hd := h.hd
  have hp := h.pos
  have hl := h.le
  clear h
  by_cases h1 : 0 ≤ f
  · by_cases h2 : f < n
    · rw [show inR n f = true from decide_eq_true ⟨h1, h2⟩]
      go_enter Try.func55, Try.ntmps55
      go_wp2
      go_ret
      exact ⟨rfl, rfl⟩
    · rw [show inR n f = false from decide_eq_false (by omega)]
      go_enter Try.func55, Try.ntmps55
      go_wp2
      go_ret
      exact ⟨rfl, rfl⟩
  · rw [show inR n f = false from decide_eq_false (by omega)]
    go_enter Try.func55, Try.ntmps55
    go_wp2
    go_ret
    exact ⟨rfl, rfl⟩

theorem rretype_c (w : World) (tb sb n cap : Nat) (L : Nat → Fm) (f to : Int) (q : Bool) (h : Tb w tb sb n cap L) :
    Calls Try.prog 14 #[.pointer (some ⟨tb, 0, none⟩), .int .i64 f, .int .i64 to, .bool q] w fun e w' => e = .returned (.int .i64 (rtE n L f to q)) ∧ Tb w' tb sb n cap (rtL n L f to q) ∧ w.grownBy w' (some sb) := by
  have H := Lib.hid h
  have hd := h.hd
  have hp := h.pos
  have hl := h.le
  by_cases hr : 0 ≤ f ∧ f < n
  · obtain ⟨k, rfl⟩ : ∃ k : Nat, f = k := ⟨f.toNat, by omega⟩
    obtain ⟨r0, r1⟩ := hr
    have hk : k < n := by omega
    have HC : Hid (inR n k = true) := decide_eq_true ⟨r0, r1⟩
    have e0 : rtE n L k to q = rtOk (L k) to q := by unfold rtE; rw [if_pos ⟨r0, r1⟩]; rfl
    have c0 := h.c0 k hk
    have f0 := h.fz (k * 4)
    have hne := h.ne
    clear h
    by_cases t1 : to = 1 ∨ to = 2
    · have hto : ¬ (to ≠ 1 ∧ to ≠ 2) := by omega
      by_cases ty0 : (L k).ty = 0
      · cases q
        · have e1 : rtE n L k to false = 6 := by rw [e0]; unfold rtOk; rw [if_neg hto, if_neg (by omega)]; rfl
          have e2 : rtL n L k to false = L := by unfold rtL; rw [e1]; rfl
          rw [e1, e2]
          rw [ty0] at c0
          clear e0 e1 e2 ty0 hto
          rcases t1 with rfl | rfl
          all_goals
            go_enter Try.func14, Try.ntmps14
            go_wp2_with (go_at_call 55; refine (ris_c _ tb sb n cap L _ H.out).mono ?_; rw [HC.out]; rintro e w' ⟨rfl, rfl⟩)
            go_ret
            exact ⟨rfl, H.out, grownBy_kept (Kept.refl _) _⟩
        · have e1 : rtE n L k to true = 0 := by rw [e0]; unfold rtOk; rw [if_neg hto, if_neg (by omega)]; rfl
          have e2 : rtL n L k to true = upd L k { L k with ty := to } := by unfold rtL; rw [e1]; rfl
          rw [e1, e2]
          rw [ty0] at c0
          clear e0 e1 e2 ty0 hto
          rcases t1 with rfl | rfl
          all_goals
            go_enter Try.func14, Try.ntmps14
            go_wp2_with (go_at_call 55; refine (ris_c _ tb sb n cap L _ H.out).mono ?_; rw [HC.out]; rintro e w' ⟨rfl, rfl⟩)
            go_ret
            exact ⟨rfl, H.out.set0 k hk _, grownBy_setCell w ⟨sb, k * 4, none⟩ _⟩
      · have e1 : rtE n L k to q = 4 := by rw [e0]; unfold rtOk; rw [if_neg hto, if_pos ty0]
        have e2 : rtL n L k to q = L := by unfold rtL; rw [e1]; rfl
        rw [e1, e2]
        have b1 : ((L k).ty != 0) = true := by simp; exact ty0
        clear e0 e1 e2 ty0 hto
        generalize (L k).ty = x at c0 b1
        rcases t1 with rfl | rfl
        all_goals
          go_enter Try.func14, Try.ntmps14
          go_wp2_with (go_at_call 55; refine (ris_c _ tb sb n cap L _ H.out).mono ?_; rw [HC.out]; rintro e w' ⟨rfl, rfl⟩)
          go_ret
          exact ⟨rfl, H.out, grownBy_kept (Kept.refl _) _⟩
    · have hto : to ≠ 1 ∧ to ≠ 2 := by omega
      have e1 : rtE n L k to q = 1 := by rw [e0]; unfold rtOk; rw [if_pos hto]
      have e2 : rtL n L k to q = L := by unfold rtL; rw [e1]; rfl
      rw [e1, e2]
      have b1 : (to != 1) = true := by simp; omega
      have b2 : (to != 2) = true := by simp; omega
      clear e0 e1 e2 hto t1
      go_enter Try.func14, Try.ntmps14
      go_wp2_with (go_at_call 55; refine (ris_c _ tb sb n cap L _ H.out).mono ?_; rw [HC.out]; rintro e w' ⟨rfl, rfl⟩)
      go_ret
      exact ⟨rfl, H.out, grownBy_kept (Kept.refl _) _⟩
  · have e1 : rtE n L f to q = 1 := if_neg hr
    have e2 : rtL n L f to q = L := by unfold rtL; rw [e1]; rfl
    have HC : Hid (inR n f = false) := decide_eq_false hr
    rw [e1, e2]
    clear e1 e2 hr h
    go_enter Try.func14, Try.ntmps14
    go_wp2_with (go_at_call 55; refine (ris_c _ tb sb n cap L _ H.out).mono ?_; rw [HC.out]; rintro e w' ⟨rfl, rfl⟩)
    go_ret
    exact ⟨rfl, H.out, grownBy_kept (Kept.refl _) _⟩

set_option maxRecDepth 100000 in
set_option maxHeartbeats 1000000 in
theorem rref_c (w : World) (tb sb n cap : Nat) (L : Nat → Fm) (f : Int) (h : Tb w tb sb n cap L) :
    Calls Try.prog 16 #[.pointer (some ⟨tb, 0, none⟩), .int .i64 f] w fun e w' => e = .returned (.int .i64 (rfE n L f)) ∧ Tb w' tb sb n cap (rfL n L f) ∧ w.grownBy w' (some sb) := by
  have H := Lib.hid h
  have hd := h.hd
  have hp := h.pos
  have hl := h.le
  by_cases hr : 0 ≤ f ∧ f < n
  · obtain ⟨k, rfl⟩ : ∃ k : Nat, f = k := ⟨f.toNat, by omega⟩
    obtain ⟨r0, r1⟩ := hr
    have hk : k < n := by omega
    have HC : Hid (inR n k = true) := decide_eq_true ⟨r0, r1⟩
    have e0 : rfE n L k = if (L k).ty = 0 then 4 else if 1000 ≤ (L k).ct then 2 else 0 := by unfold rfE; rw [if_pos ⟨r0, r1⟩]; rfl
    have c0 := h.c0 k hk
    have c1 := h.c1 k hk
    have f1 := h.fz (k * 4 + 1)
    have hne := h.ne
    have lo := h.lo k hk
    have hi := h.hi k hk
    clear h
    by_cases ty0 : (L k).ty = 0
    · have e1 : rfE n L k = 4 := by rw [e0, if_pos ty0]
      have e2 : rfL n L k = L := by unfold rfL; rw [e1]; rfl
      rw [e1, e2]
      rw [ty0] at c0
      clear e0 e1 e2 ty0
      go_enter Try.func16, Try.ntmps16
      go_wp2_with (go_at_call 55; refine (ris_c _ tb sb n cap L _ H.out).mono ?_; rw [HC.out]; rintro e w' ⟨rfl, rfl⟩)
      go_ret
      exact ⟨rfl, H.out, grownBy_kept (Kept.refl _) _⟩
    · have b0 : ((L k).ty == 0) = false := by simp; exact ty0
      by_cases ct0 : 1000 ≤ (L k).ct
      · have e1 : rfE n L k = 2 := by rw [e0, if_neg ty0, if_pos ct0]
        have e2 : rfL n L k = L := by unfold rfL; rw [e1]; rfl
        rw [e1, e2]
        clear e0 e1 e2 ty0
        generalize (L k).ty = x at c0 b0
        go_enter Try.func16, Try.ntmps16
        go_wp2_with (go_at_call 55; refine (ris_c _ tb sb n cap L _ H.out).mono ?_; rw [HC.out]; rintro e w' ⟨rfl, rfl⟩)
        go_ret
        exact ⟨rfl, H.out, grownBy_kept (Kept.refl _) _⟩
      · have e1 : rfE n L k = 0 := by rw [e0, if_neg ty0, if_neg ct0]
        have e2 : rfL n L k = upd L k { L k with ct := (L k).ct + 1 } := by unfold rfL; rw [e1]; rfl
        rw [e1, e2]
        clear e0 e1 e2 ty0
        generalize (L k).ty = x at c0 b0
        go_enter Try.func16, Try.ntmps16
        go_wp2_with (go_at_call 55; refine (ris_c _ tb sb n cap L _ H.out).mono ?_; rw [HC.out]; rintro e w' ⟨rfl, rfl⟩)
        go_ret
        exact ⟨rfl, H.out.set1 k hk ((L k).ct + 1) (by omega) (by omega), grownBy_setCell w ⟨sb, k * 4 + 1, none⟩ _⟩
  · have e1 : rfE n L f = 1 := if_neg hr
    have e2 : rfL n L f = L := by unfold rfL; rw [e1]; rfl
    have HC : Hid (inR n f = false) := decide_eq_false hr
    rw [e1, e2]
    clear e1 e2 hr h
    go_enter Try.func16, Try.ntmps16
    go_wp2_with (go_at_call 55; refine (ris_c _ tb sb n cap L _ H.out).mono ?_; rw [HC.out]; rintro e w' ⟨rfl, rfl⟩)
    go_ret
    exact ⟨rfl, H.out, grownBy_kept (Kept.refl _) _⟩

theorem rof_c (w : World) (tb sb n cap : Nat) (L : Nat → Fm) (f : Int) (h : Tb w tb sb n cap L) :
    Calls Try.prog 63 #[.pointer (some ⟨tb, 0, none⟩), .int .i64 f] w fun e w' => e = .returned (.agg #[.int .i64 (getF n L f).ty, .int .i64 (getF n L f).ct, .int .i64 (getF n L f).fr, .int .i64 (getF n L f).wa]) ∧ Kept w w' := by
  have H := Lib.hid h
  have hd := h.hd
  have hp := h.pos
  have hl := h.le
  have hlt := h.lt
  have hlt2 := h.ltt
  by_cases hr : 0 ≤ f ∧ f < n
  · obtain ⟨k, rfl⟩ : ∃ k : Nat, f = k := ⟨f.toNat, by omega⟩
    obtain ⟨r0, r1⟩ := hr
    have hk : k < n := by omega
    have HC : Hid (inR n k = true) := decide_eq_true ⟨r0, r1⟩
    have e0 : getF n L k = L k := by unfold getF; rw [if_pos ⟨r0, r1⟩]; rfl
    rw [e0]
    have c0 := h.c0 k hk
    have c1 := h.c1 k hk
    have c2 := h.c2 k hk
    have c3 := h.c3 k hk
    clear h e0
    go_enter Try.func63, Try.ntmps63
    go_wp2_with (go_at_call 55; refine (ris_c _ tb sb n cap L _ (H.out.kept ((Kept.refl _).alloc _))).mono ?_; rw [HC.out]; rintro e w' ⟨rfl, rfl⟩)
    refine bodyPost_ret (v := .agg #[.int .i64 (L k).ty, .int .i64 (L k).ct, .int .i64 (L k).fr, .int .i64 (L k).wa]) (by simp [results, Try.results63, go_sem]) rfl ⟨rfl, ?_⟩
    repeat (first | exact Kept.refl _ | apply Kept.alloc | (refine Kept.setCell ?_ (by simp) _))
  · have e0 : getF n L f = fresh := if_neg hr
    have HC : Hid (inR n f = false) := decide_eq_false hr
    rw [e0]
    clear h e0
    go_enter Try.func63, Try.ntmps63
    go_wp2_with (go_at_call 55; refine (ris_c _ tb sb n cap L _ (H.out.kept ((Kept.refl _).alloc _))).mono ?_; rw [HC.out]; rintro e w' ⟨rfl, rfl⟩)
    refine bodyPost_ret (v := .agg #[.int .i64 0, .int .i64 0, .int .i64 (-1), .int .i64 0]) (by simp [results, Try.results63, go_sem]) rfl ⟨rfl, ?_⟩
    repeat (first | exact Kept.refl _ | apply Kept.alloc | (refine Kept.setCell ?_ (by simp) _))

set_option maxRecDepth 100000 in
set_option maxHeartbeats 1000000 in
theorem rnew_c (w : World) (n : Nat) (hp : 0 < n) (hn : n ≤ 64) : Calls Try.prog 48 #[.int .i64 n] w fun e w' => ∃ sb cap, e = .returned (.tuple #[.pointer (some ⟨w.heap.size, 0, none⟩), .int .i64 0]) ∧ Tb w' w.heap.size sb n cap (fun _ => fresh) ∧ w.heap.size ≤ sb ∧ Kept w w' := by
  have infoE : (Try.prog.info? 133).map (fun i => (i.zero, i.size, i.bytes)) = some (some (.agg #[.int .i64 0, .int .i64 0, .int .i64 0, .int .i64 0]), 4, 32) := by kernel_rfl
  obtain ⟨i0, hi, hz0, hz1, hz2⟩ := info_parts infoE
  clear infoE
  go_enter Try.func48, Try.ntmps48
  go_wp2
  go_loopw [5] (fun i wr => ∃ (j : Nat) (a : Option Addr) (c : Nat), j ≤ n ∧ i = .int .i64 j ∧ Hid (wr.cell? ⟨w.heap.size, 0, none⟩ = some (.slice a j c) ∧ wr.frozen? ⟨w.heap.size, 0, none⟩ = false ∧ wr.ownsRow (w.heap.size + 1) 133 4 (.slice a j c) j (frow j) ∧ Kept w wr ∧ w.heap.size < wr.heap.size)) (fun i _ => n - (intOf i).toNat)
  case atStart => exact ⟨0, none, 0, by omega, rfl, by simp, by rw [frozen?_alloc_cells]; simp [World.frozen?], World.ownsRow_nil _ _ _ _, (Kept.refl _).alloc _, by simp⟩
  case round =>
    obtain ⟨j, a, c, hj, rfl, hown⟩ := hrel
    obtain ⟨hc, hf, -, -, hsz⟩ := hown.out
    by_cases hlt : j < n
    · go_wp2_with (at_builtin; refine wpList_append_own_at _ rfl _ _ 134 rfl (w.heap.size + 1) 133 i0 (.agg #[.int .i64 0, .int .i64 0, .int .i64 0, .int .i64 0]) 4 32 Try.underlying134 hi hz0 hz1 hz2 rfl (by decide) _ _ _ rfl (hown.out.2.2.1.alloc _) ⟨wr.heap.size, 0, none⟩ 1 1 [.int .i64 0, .int .i64 0, .int .i64 (-1), .int .i64 0] rfl rfl (cells_new _ _ _) ?c2 ?c3 ?c4 ?c5 ?_)
      case c2 => simp [Value.oneCell']
      case c3 => simp [maxLen]; omega
      case c4 => omega
      case c5 => simp; omega
      intro v' w1 hown' hgrow _ hloc
      obtain ⟨g, cap, rfl⟩ := ownsRow_succ hown'
      have hob : ∀ k, (Value.slice a j c).ownBlock = some k → w.heap.size + 1 ≤ k := fun k hk => (hown.out.2.2.1.lt k hk).1
      have hne : some w.heap.size ≠ (Value.slice a j c).ownBlock := fun e => by have := hob _ e.symm; omega
      have hk1 : Kept w w1 := Below.grown (hown.out.2.2.2.1.alloc _) hgrow (by simp; omega) (fun k hk => by have := hob k hk; omega)
      have hc1 := hgrow.cell (a := ⟨w.heap.size, 0, none⟩) ((World.cell?_alloc_lt _ _ _ hsz).trans hc) hne
      have hf1 : w1.frozen? ⟨w.heap.size, 0, none⟩ = false := by
        rw [World.frozen?_of_block (a := ⟨w.heap.size, 0, none⟩) (hgrow.block w.heap.size (by simp; omega) hne), frozen?_alloc_cells]; exact hf
      have hsz1 : w.heap.size < w1.heap.size := by have := hgrow.size; simp at this; omega
      have HO := Lib.hid hown'
      have HK := Lib.hid hk1
      clear hown' hgrow hob hne hk1 hc hf hsz hloc
      go_wp2_with fail
      go_roundw
      case rel => exact ⟨j + 1, _, _, by omega, by go_num, World.cell?_setCell_same _ _ _ hc1, by rw [World.frozen?_setCell]; exact hf1, ownsRow_setCell_below HO.out (by simp) _, HK.out.setCell (by simp) _, by simpa [World.setCell] using hsz1⟩
      case measure => simp [intOf]; omega
    · obtain rfl : j = n := by omega
      clear hc hf hsz
      obtain ⟨hc, hf, ho, hk, hsz⟩ := hown.out
      obtain ⟨g, cap, hg⟩ := ownsRow_succ (k := j - 1) (by rw [show j - 1 + 1 = j from by omega]; exact ho)
      injection hg with h1 h2 h3
      subst h1 h3
      have hT := Lib.hid (tb_of hp hn hc ho)
      have HK := Lib.hid hk
      have hgb := (ho.lt g rfl).1
      clear hown hc hf ho hk h2
      go_wp2_with fail
      go_ret2
      exact ⟨g, c, rfl, hT.out, by omega, HK.out⟩

end Go.Proofs.Ytcjadneamacilaa.C

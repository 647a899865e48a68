/- Contracts of the functions of package radix and of its reference: what each returns, and that nothing that lay there before the call is turned. -/
import Derived.Test.YtkdibpnjldocoaaProg
import Derived.WalkKit
import Derived.WalkSpells
import Derived.WalkLawsBesides
import Derived.BigQuiet
import Derived.Deep.QuietTactic
namespace Go.Proofs.Ytkdibpnjldocoaa.C
open Go.RowKit

/-- Behind the call: what lay before lies as it lay. -/
def Kept (w w' : World) : Prop := Below w.heap.size w w'
theorem Kept.refl (w : World) : Kept w w := Below.refl _ _
theorem Kept.trans {a b c : World} (h : Kept a b) (k : Kept b c) : Kept a c := Below.trans h (Below.mono k h.size)
theorem Kept.drewN {a w : World} (h : Kept a w) (n : Nat) : Kept a (w.drewN n) := ⟨h.os, h.tape, h.output, h.size, h.block⟩
theorem Kept.drew {a w : World} (h : Kept a w) : Kept a w.drew := ⟨h.os, h.tape, h.output, h.size, h.block⟩
theorem Kept.alloc {a w : World} (h : Kept a w) (o : Obj) : Kept a (w.alloc o) := Below.alloc h h.size o
theorem Kept.setCell {a w : World} (h : Kept a w) {p : Addr} (hp : a.heap.size ≤ p.block) (u : Value) : Kept a (w.setCell p u) := Below.setCell h hp u

def sl0 (a : Int) : Int := if 0 ≤ a ∧ a < 256 then a / 16 else 0
def sl1 (a : Int) : Int := if 0 ≤ a ∧ a < 256 then a % 16 else 0
def sl2 (a : Int) : Int := if 0 ≤ a ∧ a < 256 then 0 else 1
def so0 (h l : Int) : Int := if 0 ≤ h ∧ h < 16 ∧ 0 ≤ l ∧ l < 16 then h * 16 + l else 0
def so1 (h l : Int) : Int := if 0 ≤ h ∧ h < 16 ∧ 0 ≤ l ∧ l < 16 then 0 else 1
def pg0 (a : Int) : Int := if 0 ≤ a ∧ a < 32768 then a / 32 / 32 else 0
def pg1 (a : Int) : Int := if 0 ≤ a ∧ a < 32768 then a / 32 % 32 else 0
def pg2 (a : Int) : Int := if 0 ≤ a ∧ a < 32768 then a % 32 else 0
def pg3 (a : Int) : Int := if 0 ≤ a ∧ a < 32768 then 0 else 1
def po0 (h l t : Int) : Int := if 0 ≤ h ∧ h < 32 ∧ 0 ≤ l ∧ l < 32 ∧ 0 ≤ t ∧ t < 32 then (h * 32 + l) * 32 + t else 0
def po1 (h l t : Int) : Int := if 0 ≤ h ∧ h < 32 ∧ 0 ≤ l ∧ l < 32 ∧ 0 ≤ t ∧ t < 32 then 0 else 1
def nb0 (a : Int) : Int := if 0 ≤ a ∧ a < 32768 then a / 32 else 0
def nb1 (a : Int) : Int := if 0 ≤ a ∧ a < 32768 then 0 else 1
theorem results_tmp4 {fn : Func} {t u v x : Tmp} (h : fn.results = #[.tmp t, .tmp u, .tmp v, .tmp x]) (tmps : Array Value) (P : Program) (w : World) :
    (results fn tmps).run P w = .ok (.tuple #[tmps.getD t undef, tmps.getD u undef, tmps.getD v undef, tmps.getD x undef]) w := by
  simp [results, h]

theorem cut_c (a s : Int) (ha : 0 ≤ a) (ha2 : a < 32768) (hs : 1 ≤ s) (w : World) :
    Calls Try.prog 18 #[.int .i64 a, .int .i64 s] w fun e w' => e = .returned (.tuple #[.int .i64 (a / s), .int .i64 (a % s)]) ∧ ∃ n, w' = w.drewN n := by
  go_enter Try.func18, Try.ntmps18
  go_wp2
  go_quiet (fail)
  go_wp2
  go_ret2
  exact ⟨rfl, _, rfl⟩

theorem in_t (n s : Int) (h1 : 0 ≤ n) (h2 : n < s) (w : World) :
    Calls Try.prog 17 #[.int .i64 n, .int .i64 s] w fun e w' => e = .returned (.bool true) ∧ w = w' := by
  go_enter Try.func17, Try.ntmps17
  go_wp2
  go_ret
  exact ⟨rfl, rfl⟩
theorem in_f (n s : Int) (h : ¬ (0 ≤ n ∧ n < s)) (w : World) :
    Calls Try.prog 17 #[.int .i64 n, .int .i64 s] w fun e w' => e = .returned (.bool false) ∧ w = w' := by
  by_cases h1 : 0 ≤ n
  · have h2 : decide (n < s) = false := by simp; omega
    go_enter Try.func17, Try.ntmps17
    go_wp2
    go_ret
    exact ⟨rfl, rfl⟩
  · go_enter Try.func17, Try.ntmps17
    go_wp2
    go_ret
    exact ⟨rfl, rfl⟩

theorem slot_ok (a : Int) (h1 : 0 ≤ a) (h2 : a < 256) (w : World) :
    Calls Try.prog 6 #[.int .i64 a] w fun e w' => e = .returned (.tuple #[.int .i64 (a / 16), .int .i64 (a % 16), .int .i64 (0)]) ∧ ∃ n, w' = w.drewN n := by
  go_enter Try.func6, Try.ntmps6
  go_wp2_with (first | (go_at_call 18; refine (cut_c _ _ (by omega) (by omega) (by omega) _).mono ?_; rintro e w' ⟨rfl, n, rfl⟩) | (go_at_call 17; first | (refine (in_t _ _ (by omega) (by omega) _).mono ?_; rintro e w' ⟨rfl, rfl⟩) | (refine (in_f _ _ (by omega) _).mono ?_; rintro e w' ⟨rfl, rfl⟩)) | go_in)
  go_ret3
  exact ⟨rfl, by first | exact ⟨_, rfl⟩ | exact ⟨0, rfl⟩⟩

theorem slot_no (a : Int) (h : ¬ (0 ≤ a ∧ a < 256)) (w : World) :
    Calls Try.prog 6 #[.int .i64 a] w fun e w' => e = .returned (.tuple #[.int .i64 (0), .int .i64 (0), .int .i64 (1)]) ∧ ∃ n, w' = w.drewN n := by
  by_cases h1 : 0 ≤ a
  · by_cases h2 : a < 256
    · exact absurd (by omega) h
    · go_enter Try.func6, Try.ntmps6
      go_wp2_with (first | (go_at_call 18; refine (cut_c _ _ (by omega) (by omega) (by omega) _).mono ?_; rintro e w' ⟨rfl, n, rfl⟩) | (go_at_call 17; first | (refine (in_t _ _ (by omega) (by omega) _).mono ?_; rintro e w' ⟨rfl, rfl⟩) | (refine (in_f _ _ (by omega) _).mono ?_; rintro e w' ⟨rfl, rfl⟩)) | go_in)
      go_ret3
      exact ⟨rfl, by first | exact ⟨_, rfl⟩ | exact ⟨0, rfl⟩⟩
  · go_enter Try.func6, Try.ntmps6
    go_wp2_with (first | (go_at_call 18; refine (cut_c _ _ (by omega) (by omega) (by omega) _).mono ?_; rintro e w' ⟨rfl, n, rfl⟩) | (go_at_call 17; first | (refine (in_t _ _ (by omega) (by omega) _).mono ?_; rintro e w' ⟨rfl, rfl⟩) | (refine (in_f _ _ (by omega) _).mono ?_; rintro e w' ⟨rfl, rfl⟩)) | go_in)
    go_ret3
    exact ⟨rfl, by first | exact ⟨_, rfl⟩ | exact ⟨0, rfl⟩⟩

theorem slot_c (a : Int) (w : World) :
    Calls Try.prog 6 #[.int .i64 a] w fun e w' => e = .returned (.tuple #[.int .i64 (sl0 a), .int .i64 (sl1 a), .int .i64 (sl2 a)]) ∧ ∃ n, w' = w.drewN n := by
  by_cases h : 0 ≤ a ∧ a < 256
  · rw [show sl0 a = a / 16 from by unfold sl0; rw [if_pos (by omega)]]; rw [show sl1 a = a % 16 from by unfold sl1; rw [if_pos (by omega)]]; rw [show sl2 a = 0 from by unfold sl2; rw [if_pos (by omega)]]; exact slot_ok a (by omega) (by omega) w
  · rw [show sl0 a = 0 from by unfold sl0; rw [if_neg (by omega)]]; rw [show sl1 a = 0 from by unfold sl1; rw [if_neg (by omega)]]; rw [show sl2 a = 1 from by unfold sl2; rw [if_neg (by omega)]]; exact slot_no a h w

theorem slotOf_ok (p q : Int) (h1 : 0 ≤ p) (h2 : p < 16) (h3 : 0 ≤ q) (h4 : q < 16) (w : World) :
    Calls Try.prog 10 #[.int .i64 p, .int .i64 q] w fun e w' => e = .returned (.tuple #[.int .i64 (p * 16 + q), .int .i64 (0)]) ∧ ∃ n, w' = w.drewN n := by
  go_enter Try.func10, Try.ntmps10
  go_wp2_with (first | (go_at_call 17; first | (refine (in_t _ _ (by omega) (by omega) _).mono ?_; rintro e w' ⟨rfl, rfl⟩) | (refine (in_f _ _ (by omega) _).mono ?_; rintro e w' ⟨rfl, rfl⟩)) | go_in)
  go_ret2
  exact ⟨rfl, by first | exact ⟨_, rfl⟩ | exact ⟨0, rfl⟩⟩

theorem slotOf_no (p q : Int) (h : ¬ (0 ≤ p ∧ p < 16 ∧ 0 ≤ q ∧ q < 16)) (w : World) :
    Calls Try.prog 10 #[.int .i64 p, .int .i64 q] w fun e w' => e = .returned (.tuple #[.int .i64 (0), .int .i64 (1)]) ∧ ∃ n, w' = w.drewN n := by
  by_cases h1 : 0 ≤ p
  · by_cases h2 : p < 16
    · by_cases h3 : 0 ≤ q
      · by_cases h4 : q < 16
        · exact absurd (by omega) h
        · go_enter Try.func10, Try.ntmps10
          go_wp2_with (first | (go_at_call 17; first | (refine (in_t _ _ (by omega) (by omega) _).mono ?_; rintro e w' ⟨rfl, rfl⟩) | (refine (in_f _ _ (by omega) _).mono ?_; rintro e w' ⟨rfl, rfl⟩)) | go_in)
          go_ret2
          exact ⟨rfl, by first | exact ⟨_, rfl⟩ | exact ⟨0, rfl⟩⟩
      · go_enter Try.func10, Try.ntmps10
        go_wp2_with (first | (go_at_call 17; first | (refine (in_t _ _ (by omega) (by omega) _).mono ?_; rintro e w' ⟨rfl, rfl⟩) | (refine (in_f _ _ (by omega) _).mono ?_; rintro e w' ⟨rfl, rfl⟩)) | go_in)
        go_ret2
        exact ⟨rfl, by first | exact ⟨_, rfl⟩ | exact ⟨0, rfl⟩⟩
    · go_enter Try.func10, Try.ntmps10
      go_wp2_with (first | (go_at_call 17; first | (refine (in_t _ _ (by omega) (by omega) _).mono ?_; rintro e w' ⟨rfl, rfl⟩) | (refine (in_f _ _ (by omega) _).mono ?_; rintro e w' ⟨rfl, rfl⟩)) | go_in)
      go_ret2
      exact ⟨rfl, by first | exact ⟨_, rfl⟩ | exact ⟨0, rfl⟩⟩
  · go_enter Try.func10, Try.ntmps10
    go_wp2_with (first | (go_at_call 17; first | (refine (in_t _ _ (by omega) (by omega) _).mono ?_; rintro e w' ⟨rfl, rfl⟩) | (refine (in_f _ _ (by omega) _).mono ?_; rintro e w' ⟨rfl, rfl⟩)) | go_in)
    go_ret2
    exact ⟨rfl, by first | exact ⟨_, rfl⟩ | exact ⟨0, rfl⟩⟩

theorem slotOf_c (p q : Int) (w : World) :
    Calls Try.prog 10 #[.int .i64 p, .int .i64 q] w fun e w' => e = .returned (.tuple #[.int .i64 (so0 p q), .int .i64 (so1 p q)]) ∧ ∃ n, w' = w.drewN n := by
  by_cases h : 0 ≤ p ∧ p < 16 ∧ 0 ≤ q ∧ q < 16
  · rw [show so0 p q = p * 16 + q from by unfold so0; rw [if_pos (by omega)]]; rw [show so1 p q = 0 from by unfold so1; rw [if_pos (by omega)]]; exact slotOf_ok p q (by omega) (by omega) (by omega) (by omega) w
  · rw [show so0 p q = 0 from by unfold so0; rw [if_neg (by omega)]]; rw [show so1 p q = 1 from by unfold so1; rw [if_neg (by omega)]]; exact slotOf_no p q h w

theorem table_c (w : World) : Calls Try.prog 19 #[] w fun e w' => e = .returned (.agg #[.int .i64 32, .int .i64 32, .int .i64 32]) ∧ w.alloc (.cells #[.int .i64 32, .int .i64 32, .int .i64 32] 42) = w' := by
  go_enter Try.func19, Try.ntmps19
  go_wp2
  exact bodyPost_ret (v := .agg #[.int .i64 32, .int .i64 32, .int .i64 32]) (by simp [results, Try.results19, go_sem]) rfl ⟨rfl, rfl⟩

theorem ix0 (w : World) : (Instr.index 42 (.agg #[.int .i64 32, .int .i64 32, .int .i64 32]) (.int .i64 0)).run Try.prog w = .ok (.int .i64 32) w := by kernel_rfl
theorem ix1 (w : World) : (Instr.index 42 (.agg #[.int .i64 32, .int .i64 32, .int .i64 32]) (.int .i64 1)).run Try.prog w = .ok (.int .i64 32) w := by kernel_rfl
theorem ix2 (w : World) : (Instr.index 42 (.agg #[.int .i64 32, .int .i64 32, .int .i64 32]) (.int .i64 2)).run Try.prog w = .ok (.int .i64 32) w := by kernel_rfl

theorem page_ok (a : Int) (h1 : 0 ≤ a) (h2 : a < 32768) (w : World) :
    Calls Try.prog 7 #[.int .i64 a] w fun e w' => e = .returned (.tuple #[.int .i64 (a / 32 / 32), .int .i64 (a / 32 % 32), .int .i64 (a % 32), .int .i64 (0)]) ∧ Kept w w' := by
  go_enter Try.func7, Try.ntmps7
  go_wp2_with (first | (go_at_call 18; refine (cut_c _ _ (by omega) (by omega) (by omega) _).mono ?_; rintro e w' ⟨rfl, n, rfl⟩) | (go_at_call 19; refine (table_c _).mono ?_; rintro e w1 ⟨rfl, rfl⟩) | (go_at_call 17; first | (refine (in_t _ _ (by omega) (by omega) _).mono ?_; rintro e w' ⟨rfl, rfl⟩) | (refine (in_f _ _ (by omega) _).mono ?_; rintro e w' ⟨rfl, rfl⟩)) | go_in)
  (try simp only [Exit.inBlock, Exit.then]); refine bodyPost_ret (results_tmp4 rfl _ _ _) rfl ?_
  exact ⟨rfl, by repeat (first | exact Kept.refl _ | assumption | apply Kept.drewN | apply Kept.drew | apply Kept.alloc | (refine Kept.setCell ?_ (by simp) _))⟩

theorem page_no (a : Int) (h : ¬ (0 ≤ a ∧ a < 32768)) (w : World) :
    Calls Try.prog 7 #[.int .i64 a] w fun e w' => e = .returned (.tuple #[.int .i64 (0), .int .i64 (0), .int .i64 (0), .int .i64 (1)]) ∧ Kept w w' := by
  by_cases h1 : 0 ≤ a
  · by_cases h2 : a < 32768
    · exact absurd (by omega) h
    · go_enter Try.func7, Try.ntmps7
      go_wp2_with (first | (go_at_call 18; refine (cut_c _ _ (by omega) (by omega) (by omega) _).mono ?_; rintro e w' ⟨rfl, n, rfl⟩) | (go_at_call 19; refine (table_c _).mono ?_; rintro e w1 ⟨rfl, rfl⟩) | (go_at_call 17; first | (refine (in_t _ _ (by omega) (by omega) _).mono ?_; rintro e w' ⟨rfl, rfl⟩) | (refine (in_f _ _ (by omega) _).mono ?_; rintro e w' ⟨rfl, rfl⟩)) | go_in)
      (try simp only [Exit.inBlock, Exit.then]); refine bodyPost_ret (results_tmp4 rfl _ _ _) rfl ?_
      exact ⟨rfl, by repeat (first | exact Kept.refl _ | assumption | apply Kept.drewN | apply Kept.drew | apply Kept.alloc | (refine Kept.setCell ?_ (by simp) _))⟩
  · go_enter Try.func7, Try.ntmps7
    go_wp2_with (first | (go_at_call 18; refine (cut_c _ _ (by omega) (by omega) (by omega) _).mono ?_; rintro e w' ⟨rfl, n, rfl⟩) | (go_at_call 19; refine (table_c _).mono ?_; rintro e w1 ⟨rfl, rfl⟩) | (go_at_call 17; first | (refine (in_t _ _ (by omega) (by omega) _).mono ?_; rintro e w' ⟨rfl, rfl⟩) | (refine (in_f _ _ (by omega) _).mono ?_; rintro e w' ⟨rfl, rfl⟩)) | go_in)
    (try simp only [Exit.inBlock, Exit.then]); refine bodyPost_ret (results_tmp4 rfl _ _ _) rfl ?_
    exact ⟨rfl, by repeat (first | exact Kept.refl _ | assumption | apply Kept.drewN | apply Kept.drew | apply Kept.alloc | (refine Kept.setCell ?_ (by simp) _))⟩

theorem page_c (a : Int) (w : World) :
    Calls Try.prog 7 #[.int .i64 a] w fun e w' => e = .returned (.tuple #[.int .i64 (pg0 a), .int .i64 (pg1 a), .int .i64 (pg2 a), .int .i64 (pg3 a)]) ∧ Kept w w' := by
  by_cases h : 0 ≤ a ∧ a < 32768
  · rw [show pg0 a = a / 32 / 32 from by unfold pg0; rw [if_pos (by omega)]]; rw [show pg1 a = a / 32 % 32 from by unfold pg1; rw [if_pos (by omega)]]; rw [show pg2 a = a % 32 from by unfold pg2; rw [if_pos (by omega)]]; rw [show pg3 a = 0 from by unfold pg3; rw [if_pos (by omega)]]; exact page_ok a (by omega) (by omega) w
  · rw [show pg0 a = 0 from by unfold pg0; rw [if_neg (by omega)]]; rw [show pg1 a = 0 from by unfold pg1; rw [if_neg (by omega)]]; rw [show pg2 a = 0 from by unfold pg2; rw [if_neg (by omega)]]; rw [show pg3 a = 1 from by unfold pg3; rw [if_neg (by omega)]]; exact page_no a h w

theorem pageOf_ok (p q r : Int) (h1 : 0 ≤ p) (h2 : p < 32) (h3 : 0 ≤ q) (h4 : q < 32) (h5 : 0 ≤ r) (h6 : r < 32) (w : World) :
    Calls Try.prog 13 #[.int .i64 p, .int .i64 q, .int .i64 r] w fun e w' => e = .returned (.tuple #[.int .i64 ((p * 32 + q) * 32 + r), .int .i64 (0)]) ∧ Kept w w' := by
  have i0 := ix0
  have i1 := ix1
  have i2 := ix2
  go_enter Try.func13, Try.ntmps13
  go_wp2_with (first | (go_at_call 19; refine (table_c _).mono ?_; rintro e w1 ⟨rfl, rfl⟩) | (go_at_call 17; first | (refine (in_t _ _ (by omega) (by omega) _).mono ?_; rintro e w' ⟨rfl, rfl⟩) | (refine (in_f _ _ (by omega) _).mono ?_; rintro e w' ⟨rfl, rfl⟩)) | go_in)
  refine wp_loop_rounds 4 ?_; rw [rounds_succ]; go_wp2_with (first | (go_at_call 17; first | (refine (in_t _ _ (by omega) (by omega) _).mono ?_; rintro e w' ⟨rfl, rfl⟩) | (refine (in_f _ _ (by omega) _).mono ?_; rintro e w' ⟨rfl, rfl⟩))) ; rw [rounds_succ]; go_wp2_with (first | (go_at_call 17; first | (refine (in_t _ _ (by omega) (by omega) _).mono ?_; rintro e w' ⟨rfl, rfl⟩) | (refine (in_f _ _ (by omega) _).mono ?_; rintro e w' ⟨rfl, rfl⟩))) ; rw [rounds_succ]; go_wp2_with (first | (go_at_call 17; first | (refine (in_t _ _ (by omega) (by omega) _).mono ?_; rintro e w' ⟨rfl, rfl⟩) | (refine (in_f _ _ (by omega) _).mono ?_; rintro e w' ⟨rfl, rfl⟩))) ; rw [rounds_succ]; go_wp2_with (first | (go_at_call 17; first | (refine (in_t _ _ (by omega) (by omega) _).mono ?_; rintro e w' ⟨rfl, rfl⟩) | (refine (in_f _ _ (by omega) _).mono ?_; rintro e w' ⟨rfl, rfl⟩))); go_ret2
  exact ⟨rfl, by repeat (first | exact Kept.refl _ | assumption | apply Kept.drewN | apply Kept.drew | apply Kept.alloc | (refine Kept.setCell ?_ (by simp) _))⟩

theorem pageOf_no (p q r : Int) (h : ¬ (0 ≤ p ∧ p < 32 ∧ 0 ≤ q ∧ q < 32 ∧ 0 ≤ r ∧ r < 32)) (w : World) :
    Calls Try.prog 13 #[.int .i64 p, .int .i64 q, .int .i64 r] w fun e w' => e = .returned (.tuple #[.int .i64 (0), .int .i64 (1)]) ∧ Kept w w' := by
  by_cases h1 : 0 ≤ p
  · by_cases h2 : p < 32
    · by_cases h3 : 0 ≤ q
      · by_cases h4 : q < 32
        · by_cases h5 : 0 ≤ r
          · by_cases h6 : r < 32
            · exact absurd (by omega) h
            · have i0 := ix0
              have i1 := ix1
              have i2 := ix2
              go_enter Try.func13, Try.ntmps13
              go_wp2_with (first | (go_at_call 19; refine (table_c _).mono ?_; rintro e w1 ⟨rfl, rfl⟩) | (go_at_call 17; first | (refine (in_t _ _ (by omega) (by omega) _).mono ?_; rintro e w' ⟨rfl, rfl⟩) | (refine (in_f _ _ (by omega) _).mono ?_; rintro e w' ⟨rfl, rfl⟩)) | go_in)
              refine wp_loop_rounds 4 ?_; rw [rounds_succ]; go_wp2_with (first | (go_at_call 17; first | (refine (in_t _ _ (by omega) (by omega) _).mono ?_; rintro e w' ⟨rfl, rfl⟩) | (refine (in_f _ _ (by omega) _).mono ?_; rintro e w' ⟨rfl, rfl⟩))) ; rw [rounds_succ]; go_wp2_with (first | (go_at_call 17; first | (refine (in_t _ _ (by omega) (by omega) _).mono ?_; rintro e w' ⟨rfl, rfl⟩) | (refine (in_f _ _ (by omega) _).mono ?_; rintro e w' ⟨rfl, rfl⟩))) ; rw [rounds_succ]; go_wp2_with (first | (go_at_call 17; first | (refine (in_t _ _ (by omega) (by omega) _).mono ?_; rintro e w' ⟨rfl, rfl⟩) | (refine (in_f _ _ (by omega) _).mono ?_; rintro e w' ⟨rfl, rfl⟩))); go_ret2
              exact ⟨rfl, by repeat (first | exact Kept.refl _ | assumption | apply Kept.drewN | apply Kept.drew | apply Kept.alloc | (refine Kept.setCell ?_ (by simp) _))⟩
          · have i0 := ix0
            have i1 := ix1
            have i2 := ix2
            go_enter Try.func13, Try.ntmps13
            go_wp2_with (first | (go_at_call 19; refine (table_c _).mono ?_; rintro e w1 ⟨rfl, rfl⟩) | (go_at_call 17; first | (refine (in_t _ _ (by omega) (by omega) _).mono ?_; rintro e w' ⟨rfl, rfl⟩) | (refine (in_f _ _ (by omega) _).mono ?_; rintro e w' ⟨rfl, rfl⟩)) | go_in)
            refine wp_loop_rounds 4 ?_; rw [rounds_succ]; go_wp2_with (first | (go_at_call 17; first | (refine (in_t _ _ (by omega) (by omega) _).mono ?_; rintro e w' ⟨rfl, rfl⟩) | (refine (in_f _ _ (by omega) _).mono ?_; rintro e w' ⟨rfl, rfl⟩))) ; rw [rounds_succ]; go_wp2_with (first | (go_at_call 17; first | (refine (in_t _ _ (by omega) (by omega) _).mono ?_; rintro e w' ⟨rfl, rfl⟩) | (refine (in_f _ _ (by omega) _).mono ?_; rintro e w' ⟨rfl, rfl⟩))) ; rw [rounds_succ]; go_wp2_with (first | (go_at_call 17; first | (refine (in_t _ _ (by omega) (by omega) _).mono ?_; rintro e w' ⟨rfl, rfl⟩) | (refine (in_f _ _ (by omega) _).mono ?_; rintro e w' ⟨rfl, rfl⟩))); go_ret2
            exact ⟨rfl, by repeat (first | exact Kept.refl _ | assumption | apply Kept.drewN | apply Kept.drew | apply Kept.alloc | (refine Kept.setCell ?_ (by simp) _))⟩
        · have i0 := ix0
          have i1 := ix1
          have i2 := ix2
          go_enter Try.func13, Try.ntmps13
          go_wp2_with (first | (go_at_call 19; refine (table_c _).mono ?_; rintro e w1 ⟨rfl, rfl⟩) | (go_at_call 17; first | (refine (in_t _ _ (by omega) (by omega) _).mono ?_; rintro e w' ⟨rfl, rfl⟩) | (refine (in_f _ _ (by omega) _).mono ?_; rintro e w' ⟨rfl, rfl⟩)) | go_in)
          refine wp_loop_rounds 4 ?_; rw [rounds_succ]; go_wp2_with (first | (go_at_call 17; first | (refine (in_t _ _ (by omega) (by omega) _).mono ?_; rintro e w' ⟨rfl, rfl⟩) | (refine (in_f _ _ (by omega) _).mono ?_; rintro e w' ⟨rfl, rfl⟩))) ; rw [rounds_succ]; go_wp2_with (first | (go_at_call 17; first | (refine (in_t _ _ (by omega) (by omega) _).mono ?_; rintro e w' ⟨rfl, rfl⟩) | (refine (in_f _ _ (by omega) _).mono ?_; rintro e w' ⟨rfl, rfl⟩))); go_ret2
          exact ⟨rfl, by repeat (first | exact Kept.refl _ | assumption | apply Kept.drewN | apply Kept.drew | apply Kept.alloc | (refine Kept.setCell ?_ (by simp) _))⟩
      · have i0 := ix0
        have i1 := ix1
        have i2 := ix2
        go_enter Try.func13, Try.ntmps13
        go_wp2_with (first | (go_at_call 19; refine (table_c _).mono ?_; rintro e w1 ⟨rfl, rfl⟩) | (go_at_call 17; first | (refine (in_t _ _ (by omega) (by omega) _).mono ?_; rintro e w' ⟨rfl, rfl⟩) | (refine (in_f _ _ (by omega) _).mono ?_; rintro e w' ⟨rfl, rfl⟩)) | go_in)
        refine wp_loop_rounds 4 ?_; rw [rounds_succ]; go_wp2_with (first | (go_at_call 17; first | (refine (in_t _ _ (by omega) (by omega) _).mono ?_; rintro e w' ⟨rfl, rfl⟩) | (refine (in_f _ _ (by omega) _).mono ?_; rintro e w' ⟨rfl, rfl⟩))) ; rw [rounds_succ]; go_wp2_with (first | (go_at_call 17; first | (refine (in_t _ _ (by omega) (by omega) _).mono ?_; rintro e w' ⟨rfl, rfl⟩) | (refine (in_f _ _ (by omega) _).mono ?_; rintro e w' ⟨rfl, rfl⟩))); go_ret2
        exact ⟨rfl, by repeat (first | exact Kept.refl _ | assumption | apply Kept.drewN | apply Kept.drew | apply Kept.alloc | (refine Kept.setCell ?_ (by simp) _))⟩
    · have i0 := ix0
      have i1 := ix1
      have i2 := ix2
      go_enter Try.func13, Try.ntmps13
      go_wp2_with (first | (go_at_call 19; refine (table_c _).mono ?_; rintro e w1 ⟨rfl, rfl⟩) | (go_at_call 17; first | (refine (in_t _ _ (by omega) (by omega) _).mono ?_; rintro e w' ⟨rfl, rfl⟩) | (refine (in_f _ _ (by omega) _).mono ?_; rintro e w' ⟨rfl, rfl⟩)) | go_in)
      refine wp_loop_rounds 4 ?_; rw [rounds_succ]; go_wp2_with (first | (go_at_call 17; first | (refine (in_t _ _ (by omega) (by omega) _).mono ?_; rintro e w' ⟨rfl, rfl⟩) | (refine (in_f _ _ (by omega) _).mono ?_; rintro e w' ⟨rfl, rfl⟩))); go_ret2
      exact ⟨rfl, by repeat (first | exact Kept.refl _ | assumption | apply Kept.drewN | apply Kept.drew | apply Kept.alloc | (refine Kept.setCell ?_ (by simp) _))⟩
  · have i0 := ix0
    have i1 := ix1
    have i2 := ix2
    go_enter Try.func13, Try.ntmps13
    go_wp2_with (first | (go_at_call 19; refine (table_c _).mono ?_; rintro e w1 ⟨rfl, rfl⟩) | (go_at_call 17; first | (refine (in_t _ _ (by omega) (by omega) _).mono ?_; rintro e w' ⟨rfl, rfl⟩) | (refine (in_f _ _ (by omega) _).mono ?_; rintro e w' ⟨rfl, rfl⟩)) | go_in)
    refine wp_loop_rounds 4 ?_; rw [rounds_succ]; go_wp2_with (first | (go_at_call 17; first | (refine (in_t _ _ (by omega) (by omega) _).mono ?_; rintro e w' ⟨rfl, rfl⟩) | (refine (in_f _ _ (by omega) _).mono ?_; rintro e w' ⟨rfl, rfl⟩))); go_ret2
    exact ⟨rfl, by repeat (first | exact Kept.refl _ | assumption | apply Kept.drewN | apply Kept.drew | apply Kept.alloc | (refine Kept.setCell ?_ (by simp) _))⟩

theorem pageOf_c (p q r : Int) (w : World) :
    Calls Try.prog 13 #[.int .i64 p, .int .i64 q, .int .i64 r] w fun e w' => e = .returned (.tuple #[.int .i64 (po0 p q r), .int .i64 (po1 p q r)]) ∧ Kept w w' := by
  by_cases h : 0 ≤ p ∧ p < 32 ∧ 0 ≤ q ∧ q < 32 ∧ 0 ≤ r ∧ r < 32
  · rw [show po0 p q r = (p * 32 + q) * 32 + r from by unfold po0; rw [if_pos (by omega)]]; rw [show po1 p q r = 0 from by unfold po1; rw [if_pos (by omega)]]; exact pageOf_ok p q r (by omega) (by omega) (by omega) (by omega) (by omega) (by omega) w
  · rw [show po0 p q r = 0 from by unfold po0; rw [if_neg (by omega)]]; rw [show po1 p q r = 1 from by unfold po1; rw [if_neg (by omega)]]; exact pageOf_no p q r h w

theorem number_ok (a : Int) (h1 : 0 ≤ a) (h2 : a < 32768) (w : World) :
    Calls Try.prog 15 #[.int .i64 a] w fun e w' => e = .returned (.tuple #[.int .i64 (a / 32), .int .i64 (0)]) ∧ Kept w w' := by
  have en : a / 32 / 32 * 32 + a / 32 % 32 = a / 32 := by omega
  go_enter Try.func15, Try.ntmps15
  go_wp2_with (first | (go_at_call 7; refine (page_ok _ (by omega) (by omega) _).mono ?_; rintro e w1 ⟨rfl, hb1⟩) | go_in)
  go_ret2
  exact ⟨rfl, by repeat (first | exact Kept.refl _ | assumption | apply Kept.drewN | apply Kept.drew | apply Kept.alloc | (refine Kept.setCell ?_ (by simp) _))⟩

theorem number_no (a : Int) (h : ¬ (0 ≤ a ∧ a < 32768)) (w : World) :
    Calls Try.prog 15 #[.int .i64 a] w fun e w' => e = .returned (.tuple #[.int .i64 (0), .int .i64 (1)]) ∧ Kept w w' := by
  by_cases h1 : 0 ≤ a
  · by_cases h2 : a < 32768
    · exact absurd (by omega) h
    · have en : a / 32 / 32 * 32 + a / 32 % 32 = a / 32 := by omega
      go_enter Try.func15, Try.ntmps15
      go_wp2_with (first | (go_at_call 7; refine (page_no _ (by omega) _).mono ?_; rintro e w1 ⟨rfl, hb1⟩) | go_in)
      go_ret2
      exact ⟨rfl, by repeat (first | exact Kept.refl _ | assumption | apply Kept.drewN | apply Kept.drew | apply Kept.alloc | (refine Kept.setCell ?_ (by simp) _))⟩
  · have en : a / 32 / 32 * 32 + a / 32 % 32 = a / 32 := by omega
    go_enter Try.func15, Try.ntmps15
    go_wp2_with (first | (go_at_call 7; refine (page_no _ (by omega) _).mono ?_; rintro e w1 ⟨rfl, hb1⟩) | go_in)
    go_ret2
    exact ⟨rfl, by repeat (first | exact Kept.refl _ | assumption | apply Kept.drewN | apply Kept.drew | apply Kept.alloc | (refine Kept.setCell ?_ (by simp) _))⟩

theorem number_c (a : Int) (w : World) :
    Calls Try.prog 15 #[.int .i64 a] w fun e w' => e = .returned (.tuple #[.int .i64 (nb0 a), .int .i64 (nb1 a)]) ∧ Kept w w' := by
  by_cases h : 0 ≤ a ∧ a < 32768
  · rw [show nb0 a = a / 32 from by unfold nb0; rw [if_pos (by omega)]]; rw [show nb1 a = 0 from by unfold nb1; rw [if_pos (by omega)]]; exact number_ok a (by omega) (by omega) w
  · rw [show nb0 a = 0 from by unfold nb0; rw [if_neg (by omega)]]; rw [show nb1 a = 1 from by unfold nb1; rw [if_neg (by omega)]]; exact number_no a h w

theorem rslot_ok (a : Int) (h1 : 0 ≤ a) (h2 : a < 256) (w : World) :
    Calls Try.prog 9 #[.int .i64 a] w fun e w' => e = .returned (.tuple #[.int .i64 (a / 16), .int .i64 (a % 16), .int .i64 (0)]) ∧ ∃ n, w' = w.drewN n := by
  go_enter Try.func9, Try.ntmps9
  go_wp2_with (first | (go_at_call 18; refine (cut_c _ _ (by omega) (by omega) (by omega) _).mono ?_; rintro e w' ⟨rfl, n, rfl⟩) | go_in)
  go_ret3
  exact ⟨rfl, by first | exact ⟨_, rfl⟩ | exact ⟨0, rfl⟩⟩

theorem rslot_no (a : Int) (h : ¬ (0 ≤ a ∧ a < 256)) (w : World) :
    Calls Try.prog 9 #[.int .i64 a] w fun e w' => e = .returned (.tuple #[.int .i64 (0), .int .i64 (0), .int .i64 (1)]) ∧ ∃ n, w' = w.drewN n := by
  by_cases h1 : 0 ≤ a
  · by_cases h2 : a < 256
    · exact absurd (by omega) h
    · go_enter Try.func9, Try.ntmps9
      go_wp2_with (first | (go_at_call 18; refine (cut_c _ _ (by omega) (by omega) (by omega) _).mono ?_; rintro e w' ⟨rfl, n, rfl⟩) | go_in)
      go_ret3
      exact ⟨rfl, by first | exact ⟨_, rfl⟩ | exact ⟨0, rfl⟩⟩
  · go_enter Try.func9, Try.ntmps9
    go_wp2_with (first | (go_at_call 18; refine (cut_c _ _ (by omega) (by omega) (by omega) _).mono ?_; rintro e w' ⟨rfl, n, rfl⟩) | go_in)
    go_ret3
    exact ⟨rfl, by first | exact ⟨_, rfl⟩ | exact ⟨0, rfl⟩⟩

theorem rslot_c (a : Int) (w : World) :
    Calls Try.prog 9 #[.int .i64 a] w fun e w' => e = .returned (.tuple #[.int .i64 (sl0 a), .int .i64 (sl1 a), .int .i64 (sl2 a)]) ∧ ∃ n, w' = w.drewN n := by
  by_cases h : 0 ≤ a ∧ a < 256
  · rw [show sl0 a = a / 16 from by unfold sl0; rw [if_pos (by omega)]]; rw [show sl1 a = a % 16 from by unfold sl1; rw [if_pos (by omega)]]; rw [show sl2 a = 0 from by unfold sl2; rw [if_pos (by omega)]]; exact rslot_ok a (by omega) (by omega) w
  · rw [show sl0 a = 0 from by unfold sl0; rw [if_neg (by omega)]]; rw [show sl1 a = 0 from by unfold sl1; rw [if_neg (by omega)]]; rw [show sl2 a = 1 from by unfold sl2; rw [if_neg (by omega)]]; exact rslot_no a h w

theorem rslotOf_ok (p q : Int) (h1 : 0 ≤ p) (h2 : p < 16) (h3 : 0 ≤ q) (h4 : q < 16) (w : World) :
    Calls Try.prog 11 #[.int .i64 p, .int .i64 q] w fun e w' => e = .returned (.tuple #[.int .i64 (p * 16 + q), .int .i64 (0)]) ∧ ∃ n, w' = w.drewN n := by
  go_enter Try.func11, Try.ntmps11
  go_wp2
  go_ret2
  exact ⟨rfl, by first | exact ⟨_, rfl⟩ | exact ⟨0, rfl⟩⟩

theorem rslotOf_no (p q : Int) (h : ¬ (0 ≤ p ∧ p < 16 ∧ 0 ≤ q ∧ q < 16)) (w : World) :
    Calls Try.prog 11 #[.int .i64 p, .int .i64 q] w fun e w' => e = .returned (.tuple #[.int .i64 (0), .int .i64 (1)]) ∧ ∃ n, w' = w.drewN n := by
  by_cases h1 : 0 ≤ p
  · by_cases h2 : p < 16
    · by_cases h3 : 0 ≤ q
      · by_cases h4 : q < 16
        · exact absurd (by omega) h
        · go_enter Try.func11, Try.ntmps11
          go_wp2
          go_ret2
          exact ⟨rfl, by first | exact ⟨_, rfl⟩ | exact ⟨0, rfl⟩⟩
      · go_enter Try.func11, Try.ntmps11
        go_wp2
        go_ret2
        exact ⟨rfl, by first | exact ⟨_, rfl⟩ | exact ⟨0, rfl⟩⟩
    · go_enter Try.func11, Try.ntmps11
      go_wp2
      go_ret2
      exact ⟨rfl, by first | exact ⟨_, rfl⟩ | exact ⟨0, rfl⟩⟩
  · go_enter Try.func11, Try.ntmps11
    go_wp2
    go_ret2
    exact ⟨rfl, by first | exact ⟨_, rfl⟩ | exact ⟨0, rfl⟩⟩

theorem rslotOf_c (p q : Int) (w : World) :
    Calls Try.prog 11 #[.int .i64 p, .int .i64 q] w fun e w' => e = .returned (.tuple #[.int .i64 (so0 p q), .int .i64 (so1 p q)]) ∧ ∃ n, w' = w.drewN n := by
  by_cases h : 0 ≤ p ∧ p < 16 ∧ 0 ≤ q ∧ q < 16
  · rw [show so0 p q = p * 16 + q from by unfold so0; rw [if_pos (by omega)]]; rw [show so1 p q = 0 from by unfold so1; rw [if_pos (by omega)]]; exact rslotOf_ok p q (by omega) (by omega) (by omega) (by omega) w
  · rw [show so0 p q = 0 from by unfold so0; rw [if_neg (by omega)]]; rw [show so1 p q = 1 from by unfold so1; rw [if_neg (by omega)]]; exact rslotOf_no p q h w

theorem rpage_ok (a : Int) (h1 : 0 ≤ a) (h2 : a < 32768) (w : World) :
    Calls Try.prog 12 #[.int .i64 a] w fun e w' => e = .returned (.tuple #[.int .i64 (a / 32 / 32), .int .i64 (a / 32 % 32), .int .i64 (a % 32), .int .i64 (0)]) ∧ ∃ n, w' = w.drewN n := by
  go_enter Try.func12, Try.ntmps12
  go_wp2
  (try simp only [Exit.inBlock, Exit.then]); refine bodyPost_ret (results_tmp4 rfl _ _ _) rfl ?_
  exact ⟨rfl, by first | exact ⟨_, rfl⟩ | exact ⟨0, rfl⟩⟩

theorem rpage_no (a : Int) (h : ¬ (0 ≤ a ∧ a < 32768)) (w : World) :
    Calls Try.prog 12 #[.int .i64 a] w fun e w' => e = .returned (.tuple #[.int .i64 (0), .int .i64 (0), .int .i64 (0), .int .i64 (1)]) ∧ ∃ n, w' = w.drewN n := by
  by_cases h1 : 0 ≤ a
  · by_cases h2 : a < 32768
    · exact absurd (by omega) h
    · go_enter Try.func12, Try.ntmps12
      go_wp2
      (try simp only [Exit.inBlock, Exit.then]); refine bodyPost_ret (results_tmp4 rfl _ _ _) rfl ?_
      exact ⟨rfl, by first | exact ⟨_, rfl⟩ | exact ⟨0, rfl⟩⟩
  · go_enter Try.func12, Try.ntmps12
    go_wp2
    (try simp only [Exit.inBlock, Exit.then]); refine bodyPost_ret (results_tmp4 rfl _ _ _) rfl ?_
    exact ⟨rfl, by first | exact ⟨_, rfl⟩ | exact ⟨0, rfl⟩⟩

theorem rpage_c (a : Int) (w : World) :
    Calls Try.prog 12 #[.int .i64 a] w fun e w' => e = .returned (.tuple #[.int .i64 (pg0 a), .int .i64 (pg1 a), .int .i64 (pg2 a), .int .i64 (pg3 a)]) ∧ ∃ n, w' = w.drewN n := by
  by_cases h : 0 ≤ a ∧ a < 32768
  · rw [show pg0 a = a / 32 / 32 from by unfold pg0; rw [if_pos (by omega)]]; rw [show pg1 a = a / 32 % 32 from by unfold pg1; rw [if_pos (by omega)]]; rw [show pg2 a = a % 32 from by unfold pg2; rw [if_pos (by omega)]]; rw [show pg3 a = 0 from by unfold pg3; rw [if_pos (by omega)]]; exact rpage_ok a (by omega) (by omega) w
  · rw [show pg0 a = 0 from by unfold pg0; rw [if_neg (by omega)]]; rw [show pg1 a = 0 from by unfold pg1; rw [if_neg (by omega)]]; rw [show pg2 a = 0 from by unfold pg2; rw [if_neg (by omega)]]; rw [show pg3 a = 1 from by unfold pg3; rw [if_neg (by omega)]]; exact rpage_no a h w

theorem rnumber_ok (a : Int) (h1 : 0 ≤ a) (h2 : a < 32768) (w : World) :
    Calls Try.prog 16 #[.int .i64 a] w fun e w' => e = .returned (.tuple #[.int .i64 (a / 32), .int .i64 (0)]) ∧ ∃ n, w' = w.drewN n := by
  go_enter Try.func16, Try.ntmps16
  go_wp2_with (first | (go_at_call 12; refine (rpage_ok _ (by omega) (by omega) _).mono ?_; rintro e w1 ⟨rfl, n, rfl⟩) | go_in)
  go_ret2
  exact ⟨rfl, by first | exact ⟨_, rfl⟩ | exact ⟨0, rfl⟩⟩

theorem rnumber_no (a : Int) (h : ¬ (0 ≤ a ∧ a < 32768)) (w : World) :
    Calls Try.prog 16 #[.int .i64 a] w fun e w' => e = .returned (.tuple #[.int .i64 (0), .int .i64 (1)]) ∧ ∃ n, w' = w.drewN n := by
  by_cases h1 : 0 ≤ a
  · by_cases h2 : a < 32768
    · exact absurd (by omega) h
    · go_enter Try.func16, Try.ntmps16
      go_wp2_with (first | (go_at_call 12; refine (rpage_no _ (by omega) _).mono ?_; rintro e w1 ⟨rfl, n, rfl⟩) | go_in)
      go_ret2
      exact ⟨rfl, by first | exact ⟨_, rfl⟩ | exact ⟨0, rfl⟩⟩
  · go_enter Try.func16, Try.ntmps16
    go_wp2_with (first | (go_at_call 12; refine (rpage_no _ (by omega) _).mono ?_; rintro e w1 ⟨rfl, n, rfl⟩) | go_in)
    go_ret2
    exact ⟨rfl, by first | exact ⟨_, rfl⟩ | exact ⟨0, rfl⟩⟩

theorem rnumber_c (a : Int) (w : World) :
    Calls Try.prog 16 #[.int .i64 a] w fun e w' => e = .returned (.tuple #[.int .i64 (nb0 a), .int .i64 (nb1 a)]) ∧ ∃ n, w' = w.drewN n := by
  by_cases h : 0 ≤ a ∧ a < 32768
  · rw [show nb0 a = a / 32 from by unfold nb0; rw [if_pos (by omega)]]; rw [show nb1 a = 0 from by unfold nb1; rw [if_pos (by omega)]]; exact rnumber_ok a (by omega) (by omega) w
  · rw [show nb0 a = 0 from by unfold nb0; rw [if_neg (by omega)]]; rw [show nb1 a = 1 from by unfold nb1; rw [if_neg (by omega)]]; exact rnumber_no a h w

theorem rpageOf_ok (p q r : Int) (h1 : 0 ≤ p) (h2 : p < 32) (h3 : 0 ≤ q) (h4 : q < 32) (h5 : 0 ≤ r) (h6 : r < 32) (w : World) :
    Calls Try.prog 14 #[.int .i64 p, .int .i64 q, .int .i64 r] w fun e w' => e = .returned (.tuple #[.int .i64 ((p * 32 + q) * 32 + r), .int .i64 (0)]) ∧ ∃ n, w' = w.drewN n := by
  go_enter Try.func14, Try.ntmps14
  go_wp2
  go_ret2
  exact ⟨rfl, by first | exact ⟨_, rfl⟩ | exact ⟨0, rfl⟩⟩

theorem rpageOf_no (p q r : Int) (h : ¬ (0 ≤ p ∧ p < 32 ∧ 0 ≤ q ∧ q < 32 ∧ 0 ≤ r ∧ r < 32)) (w : World) :
    Calls Try.prog 14 #[.int .i64 p, .int .i64 q, .int .i64 r] w fun e w' => e = .returned (.tuple #[.int .i64 (0), .int .i64 (1)]) ∧ ∃ n, w' = w.drewN n := by
  by_cases h1 : 0 ≤ p
  · by_cases h2 : p < 32
    · by_cases h3 : 0 ≤ q
      · by_cases h4 : q < 32
        · by_cases h5 : 0 ≤ r
          · by_cases h6 : r < 32
            · exact absurd (by omega) h
            · go_enter Try.func14, Try.ntmps14
              go_wp2
              go_ret2
              exact ⟨rfl, by first | exact ⟨_, rfl⟩ | exact ⟨0, rfl⟩⟩
          · go_enter Try.func14, Try.ntmps14
            go_wp2
            go_ret2
            exact ⟨rfl, by first | exact ⟨_, rfl⟩ | exact ⟨0, rfl⟩⟩
        · go_enter Try.func14, Try.ntmps14
          go_wp2
          go_ret2
          exact ⟨rfl, by first | exact ⟨_, rfl⟩ | exact ⟨0, rfl⟩⟩
      · go_enter Try.func14, Try.ntmps14
        go_wp2
        go_ret2
        exact ⟨rfl, by first | exact ⟨_, rfl⟩ | exact ⟨0, rfl⟩⟩
    · go_enter Try.func14, Try.ntmps14
      go_wp2
      go_ret2
      exact ⟨rfl, by first | exact ⟨_, rfl⟩ | exact ⟨0, rfl⟩⟩
  · go_enter Try.func14, Try.ntmps14
    go_wp2
    go_ret2
    exact ⟨rfl, by first | exact ⟨_, rfl⟩ | exact ⟨0, rfl⟩⟩

theorem rpageOf_c (p q r : Int) (w : World) :
    Calls Try.prog 14 #[.int .i64 p, .int .i64 q, .int .i64 r] w fun e w' => e = .returned (.tuple #[.int .i64 (po0 p q r), .int .i64 (po1 p q r)]) ∧ ∃ n, w' = w.drewN n := by
  by_cases h : 0 ≤ p ∧ p < 32 ∧ 0 ≤ q ∧ q < 32 ∧ 0 ≤ r ∧ r < 32
  · rw [show po0 p q r = (p * 32 + q) * 32 + r from by unfold po0; rw [if_pos (by omega)]]; rw [show po1 p q r = 0 from by unfold po1; rw [if_pos (by omega)]]; exact rpageOf_ok p q r (by omega) (by omega) (by omega) (by omega) (by omega) (by omega) w
  · rw [show po0 p q r = 0 from by unfold po0; rw [if_neg (by omega)]]; rw [show po1 p q r = 1 from by unfold po1; rw [if_neg (by omega)]]; exact rpageOf_no p q r h w

end Go.Proofs.Ytkdibpnjldocoaa.C

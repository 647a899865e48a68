/- The contracts of the machine's parts' New. -/
import Derived.Test.YtcjadneamacilaaD
import Derived.Carry
namespace Go.Proofs.Ytcjadneamacilaa.C
open Go.RowKit

theorem in_t (w : World) (n a b : Int) (h : a ≤ n ∧ n ≤ b) : Calls Try.prog 78 #[.int .i64 n, .int .i64 a, .int .i64 b] w fun e w' => e = .returned (.bool true) ∧ w = w' := by
  obtain ⟨h1, h2⟩ := h
  go_enter Try.func78, Try.ntmps78
  go_wp2
  go_ret
  exact ⟨rfl, rfl⟩

theorem check_c (w : World) (n : Nat) (hp : 0 < n) (hn : n ≤ 64) : Calls Try.prog 34 #[.agg #[.int .i64 n, .int .i64 1, .int .i64 0, .int .i64 0]] w fun e w' => e = .returned (.int .i64 0) ∧ Kept w w' := by
  go_enter Try.func34, Try.ntmps34
  go_wp2_with (go_at_call 78; refine (in_t _ _ _ _ (by omega)).mono ?_; rintro e w' ⟨rfl, rfl⟩)
  go_ret
  exact ⟨rfl, (Kept.refl _).alloc _⟩

theorem mk64 (w : World) : ∃ cs, (Instr.makeSlice 156 (.int .i64 64) (.int .i64 64)).run Try.prog w = .ok (.slice (some ⟨w.heap.size, 0, none⟩) 64 64) (w.alloc (.cells cs 219)) := by
  have info : (Try.prog.info? 219).map (fun i => (i.zero, i.size, i.bytes)) = some (some (.agg #[.bool false, .int .i64 0, .bool false, .int .i64 0]), 4, 32) := by kernel_rfl
  obtain ⟨i0, hi, hz0, hz1, hz2⟩ := info_parts info
  exact ⟨_, run_make (P := Try.prog) w 156 219 i0 _ Try.underlying156 hi hz0 .i64 .i64 64 64 (by omega) (by omega) (by rw [hz2]; omega) (by omega)⟩

theorem livenew_c (w : World) : Calls Try.prog 35 #[] w fun e w' => ∃ b, e = .returned (.pointer (some ⟨b, 0, none⟩)) ∧ Kept w w' := by
  obtain ⟨cs, hmk⟩ := mk64 w
  go_enter Try.func35, Try.ntmps35
  go_wp2
  go_ret
  exact ⟨_, rfl, ((Kept.refl _).alloc _).alloc _⟩

theorem hwnew_c (w : World) : Calls Try.prog 36 #[] w fun e w' => ∃ b, e = .returned (.pointer (some ⟨b, 0, none⟩)) ∧ Kept w w' := by
  have hmm := @run_makeMap Try.prog
  go_enter Try.func36, Try.ntmps36
  go_wp2
  go_ret
  exact ⟨_, rfl, ((Kept.refl _).alloc _).alloc _⟩

theorem tlbnew_c (w : World) : Calls Try.prog 41 #[.int .i64 0] w fun e w' => ∃ b, e = .returned (.tuple #[.pointer (some ⟨b, 0, none⟩), .int .i64 0]) ∧ Kept w w' := by
  have hmm := @run_makeMap Try.prog
  go_enter Try.func41, Try.ntmps41
  go_wp2
  go_ret2
  exact ⟨_, rfl, ((Kept.refl _).alloc _).alloc _⟩

theorem regsnew_c (w : World) : Calls Try.prog 42 #[] w fun e w' => ∃ b, e = .returned (.pointer (some ⟨b, 0, none⟩)) ∧ Kept w w' := by
  go_enter Try.func42, Try.ntmps42
  go_wp2
  go_ret
  exact ⟨_, rfl, (Kept.refl _).alloc _⟩

set_option maxRecDepth 100000 in
theorem clocknew_c (w : World) : Calls Try.prog 38 #[.int .i64 1] w fun e w' => ∃ b, e = .returned (.tuple #[.pointer (some ⟨b, 0, none⟩), .int .i64 0]) ∧ Kept w w' := by
  go_enter Try.func38, Try.ntmps38
  go_wp2
  refine wp_loop_rounds 5 ?_
  rw [rounds_succ]
  go_wp2
  rw [rounds_succ]
  go_wp2
  rw [rounds_succ]
  go_wp2
  rw [rounds_succ]
  go_wp2
  rw [rounds_succ]
  go_wp2
  go_ret2
  refine ⟨_, rfl, ?_⟩
  repeat (refine Kept.setCell ?_ (by simp) _)
  exact (Kept.refl _).alloc _
end Go.Proofs.Ytcjadneamacilaa.C

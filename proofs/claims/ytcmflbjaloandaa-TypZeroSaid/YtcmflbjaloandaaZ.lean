/- The walk of TypZero: a table that nobody made has nothing. -/
import Derived.Test.YtcmflbjaloandaaE
namespace Go.Proofs.Ytcmflbjaloandaa.C
open Go.RowKit

theorem none_nil (w : World) : Calls Try.prog 28 #[.pointer none] w fun e w' => e = .returned (.bool true) ∧ w = w' := by
  go_enter Try.func28, Try.ntmps28
  go_wp2
  go_ret
  exact ⟨rfl, rfl⟩

theorem can_nil (w : World) (f : Int) : Calls Try.prog 23 #[.pointer none, .int .i64 f] w fun e w' => e = .returned (.int .i64 13) ∧ w = w' := by
  go_enter Try.func23, Try.ntmps23
  go_wp2_with (go_at_call 28; refine (none_nil _).mono ?_; rintro e w' ⟨rfl, rfl⟩)
  go_ret
  exact ⟨rfl, rfl⟩

theorem retype_nil (w : World) (f : Int) : Calls Try.prog 7 #[.pointer none, .int .i64 f, .int .i64 1, .bool true] w fun e w' => e = .returned (.int .i64 13) ∧ Kept w w' := by
  go_enter Try.func7, Try.ntmps7
  go_wp2_with (go_at_call 23; refine (can_nil _ _).mono ?_; rintro e w' ⟨rfl, rfl⟩)
  go_ret
  exact ⟨rfl, by first | exact Kept.refl _ | exact (Kept.refl _).alloc _⟩

theorem untype_nil (w : World) (f : Int) : Calls Try.prog 8 #[.pointer none, .int .i64 f, .int .i64 1, .bool true] w fun e w' => e = .returned (.int .i64 13) ∧ Kept w w' := by
  go_enter Try.func8, Try.ntmps8
  go_wp2_with (go_at_call 23; refine (can_nil _ _).mono ?_; rintro e w' ⟨rfl, rfl⟩)
  go_ret
  exact ⟨rfl, by first | exact Kept.refl _ | exact (Kept.refl _).alloc _⟩

theorem ref_nil (w : World) (f : Int) : Calls Try.prog 9 #[.pointer none, .int .i64 f] w fun e w' => e = .returned (.int .i64 13) ∧ Kept w w' := by
  go_enter Try.func9, Try.ntmps9
  go_wp2_with (go_at_call 23; refine (can_nil _ _).mono ?_; rintro e w' ⟨rfl, rfl⟩)
  go_ret
  exact ⟨rfl, by first | exact Kept.refl _ | exact (Kept.refl _).alloc _⟩

theorem unref_nil (w : World) (f : Int) : Calls Try.prog 10 #[.pointer none, .int .i64 f, .int .i64 1] w fun e w' => e = .returned (.int .i64 13) ∧ Kept w w' := by
  go_enter Try.func10, Try.ntmps10
  go_wp2_with (go_at_call 23; refine (can_nil _ _).mono ?_; rintro e w' ⟨rfl, rfl⟩)
  go_ret
  exact ⟨rfl, by first | exact Kept.refl _ | exact (Kept.refl _).alloc _⟩

theorem of_nil (w : World) (f : Int) : Calls Try.prog 25 #[.pointer none, .int .i64 f] w fun e w' => e = .returned (.agg #[.int .i64 0, .int .i64 0, .int .i64 (-1), .int .i64 0]) ∧ Kept w w' := by
  go_enter Try.func25, Try.ntmps25
  go_wp2_with (first | (go_at_call 23; refine (can_nil _ _).mono ?_; rintro e w' ⟨rfl, rfl⟩) | (go_at_call 26; refine (fresh_c _).mono ?_; rintro e w' ⟨rfl, rfl⟩))
  refine bodyPost_ret (v := .agg #[.int .i64 0, .int .i64 0, .int .i64 (-1), .int .i64 0]) (by simp [results, Try.results25, go_sem]) rfl ⟨rfl, ?_⟩
  exact ((Kept.refl _).alloc _).alloc _

theorem type_nil (w : World) (f : Int) : Calls Try.prog 11 #[.pointer none, .int .i64 f] w fun e w' => e = .returned (.int .i64 0) ∧ Kept w w' := by
  have hf := fld0
  go_enter Try.func11, Try.ntmps11
  go_wp2_with (go_at_call 25; refine (of_nil _ _).mono ?_; rintro e w1 ⟨rfl, hk1⟩)
  go_ret
  exact ⟨rfl, hk1⟩

theorem count_nil (w : World) (f : Int) : Calls Try.prog 12 #[.pointer none, .int .i64 f] w fun e w' => e = .returned (.int .i64 0) ∧ Kept w w' := by
  have hf := fld1
  go_enter Try.func12, Try.ntmps12
  go_wp2_with (go_at_call 25; refine (of_nil _ _).mono ?_; rintro e w1 ⟨rfl, hk1⟩)
  go_ret
  exact ⟨rfl, hk1⟩

theorem freed_nil (w : World) (f : Int) : Calls Try.prog 13 #[.pointer none, .int .i64 f] w fun e w' => e = .returned (.int .i64 (-1)) ∧ Kept w w' := by
  have hf := fld2
  go_enter Try.func13, Try.ntmps13
  go_wp2_with (go_at_call 25; refine (of_nil _ _).mono ?_; rintro e w1 ⟨rfl, hk1⟩)
  go_ret
  exact ⟨rfl, hk1⟩

theorem was_nil (w : World) (f : Int) : Calls Try.prog 14 #[.pointer none, .int .i64 f] w fun e w' => e = .returned (.int .i64 0) ∧ Kept w w' := by
  have hf := fld3
  go_enter Try.func14, Try.ntmps14
  go_wp2_with (go_at_call 25; refine (of_nil _ _).mono ?_; rintro e w1 ⟨rfl, hk1⟩)
  go_ret
  exact ⟨rfl, hk1⟩

theorem none_emp (w : World) (tb : Nat) (h : w.cell? ⟨tb, 0, none⟩ = some (.slice none 0 0)) : Calls Try.prog 28 #[.pointer (some ⟨tb, 0, none⟩)] w fun e w' => e = .returned (.bool true) ∧ w = w' := by
  have hlt : tb < w.heap.size := World.block_lt_of_cell? w _ h
  go_enter Try.func28, Try.ntmps28
  go_wp2
  go_ret
  exact ⟨rfl, rfl⟩

theorem can_emp (w : World) (tb : Nat) (h : w.cell? ⟨tb, 0, none⟩ = some (.slice none 0 0)) (f : Int) : Calls Try.prog 23 #[.pointer (some ⟨tb, 0, none⟩), .int .i64 f] w fun e w' => e = .returned (.int .i64 13) ∧ w = w' := by
  have HH := Lib.hid h
  clear h
  go_enter Try.func23, Try.ntmps23
  go_wp2_with (go_at_call 28; refine (none_emp _ _ HH.out).mono ?_; rintro e w' ⟨rfl, rfl⟩)
  go_ret
  exact ⟨rfl, rfl⟩

theorem retype_emp (w : World) (tb : Nat) (h : w.cell? ⟨tb, 0, none⟩ = some (.slice none 0 0)) (f : Int) : Calls Try.prog 7 #[.pointer (some ⟨tb, 0, none⟩), .int .i64 f, .int .i64 1, .bool true] w fun e w' => e = .returned (.int .i64 13) ∧ Kept w w' := by
  have HH := Lib.hid h
  clear h
  go_enter Try.func7, Try.ntmps7
  go_wp2_with (go_at_call 23; refine (can_emp _ _ HH.out _).mono ?_; rintro e w' ⟨rfl, rfl⟩)
  go_ret
  exact ⟨rfl, by first | exact Kept.refl _ | exact (Kept.refl _).alloc _⟩

theorem untype_emp (w : World) (tb : Nat) (h : w.cell? ⟨tb, 0, none⟩ = some (.slice none 0 0)) (f : Int) : Calls Try.prog 8 #[.pointer (some ⟨tb, 0, none⟩), .int .i64 f, .int .i64 1, .bool true] w fun e w' => e = .returned (.int .i64 13) ∧ Kept w w' := by
  have HH := Lib.hid h
  clear h
  go_enter Try.func8, Try.ntmps8
  go_wp2_with (go_at_call 23; refine (can_emp _ _ HH.out _).mono ?_; rintro e w' ⟨rfl, rfl⟩)
  go_ret
  exact ⟨rfl, by first | exact Kept.refl _ | exact (Kept.refl _).alloc _⟩

theorem ref_emp (w : World) (tb : Nat) (h : w.cell? ⟨tb, 0, none⟩ = some (.slice none 0 0)) (f : Int) : Calls Try.prog 9 #[.pointer (some ⟨tb, 0, none⟩), .int .i64 f] w fun e w' => e = .returned (.int .i64 13) ∧ Kept w w' := by
  have HH := Lib.hid h
  clear h
  go_enter Try.func9, Try.ntmps9
  go_wp2_with (go_at_call 23; refine (can_emp _ _ HH.out _).mono ?_; rintro e w' ⟨rfl, rfl⟩)
  go_ret
  exact ⟨rfl, by first | exact Kept.refl _ | exact (Kept.refl _).alloc _⟩

theorem unref_emp (w : World) (tb : Nat) (h : w.cell? ⟨tb, 0, none⟩ = some (.slice none 0 0)) (f : Int) : Calls Try.prog 10 #[.pointer (some ⟨tb, 0, none⟩), .int .i64 f, .int .i64 1] w fun e w' => e = .returned (.int .i64 13) ∧ Kept w w' := by
  have HH := Lib.hid h
  clear h
  go_enter Try.func10, Try.ntmps10
  go_wp2_with (go_at_call 23; refine (can_emp _ _ HH.out _).mono ?_; rintro e w' ⟨rfl, rfl⟩)
  go_ret
  exact ⟨rfl, by first | exact Kept.refl _ | exact (Kept.refl _).alloc _⟩

theorem of_emp (w : World) (tb : Nat) (h : w.cell? ⟨tb, 0, none⟩ = some (.slice none 0 0)) (f : Int) : Calls Try.prog 25 #[.pointer (some ⟨tb, 0, none⟩), .int .i64 f] w fun e w' => e = .returned (.agg #[.int .i64 0, .int .i64 0, .int .i64 (-1), .int .i64 0]) ∧ Kept w w' := by
  have hlt : tb < w.heap.size := World.block_lt_of_cell? w _ h
  have HH := Lib.hid h
  clear h
  go_enter Try.func25, Try.ntmps25
  go_wp2_with (first | (go_at_call 23; refine (can_emp _ _ (((Kept.refl _).alloc _).cell HH.out) _).mono ?_; rintro e w' ⟨rfl, rfl⟩) | (go_at_call 26; refine (fresh_c _).mono ?_; rintro e w' ⟨rfl, rfl⟩))
  refine bodyPost_ret (v := .agg #[.int .i64 0, .int .i64 0, .int .i64 (-1), .int .i64 0]) (by simp [results, Try.results25, go_sem]) rfl ⟨rfl, ?_⟩
  exact ((Kept.refl _).alloc _).alloc _

theorem type_emp (w : World) (tb : Nat) (h : w.cell? ⟨tb, 0, none⟩ = some (.slice none 0 0)) (f : Int) : Calls Try.prog 11 #[.pointer (some ⟨tb, 0, none⟩), .int .i64 f] w fun e w' => e = .returned (.int .i64 0) ∧ Kept w w' := by
  have HH := Lib.hid h
  clear h
  have hf := fld0
  go_enter Try.func11, Try.ntmps11
  go_wp2_with (go_at_call 25; refine (of_emp _ _ HH.out _).mono ?_; rintro e w1 ⟨rfl, hk1⟩)
  go_ret
  exact ⟨rfl, hk1⟩

theorem count_emp (w : World) (tb : Nat) (h : w.cell? ⟨tb, 0, none⟩ = some (.slice none 0 0)) (f : Int) : Calls Try.prog 12 #[.pointer (some ⟨tb, 0, none⟩), .int .i64 f] w fun e w' => e = .returned (.int .i64 0) ∧ Kept w w' := by
  have HH := Lib.hid h
  clear h
  have hf := fld1
  go_enter Try.func12, Try.ntmps12
  go_wp2_with (go_at_call 25; refine (of_emp _ _ HH.out _).mono ?_; rintro e w1 ⟨rfl, hk1⟩)
  go_ret
  exact ⟨rfl, hk1⟩

theorem freed_emp (w : World) (tb : Nat) (h : w.cell? ⟨tb, 0, none⟩ = some (.slice none 0 0)) (f : Int) : Calls Try.prog 13 #[.pointer (some ⟨tb, 0, none⟩), .int .i64 f] w fun e w' => e = .returned (.int .i64 (-1)) ∧ Kept w w' := by
  have HH := Lib.hid h
  clear h
  have hf := fld2
  go_enter Try.func13, Try.ntmps13
  go_wp2_with (go_at_call 25; refine (of_emp _ _ HH.out _).mono ?_; rintro e w1 ⟨rfl, hk1⟩)
  go_ret
  exact ⟨rfl, hk1⟩

theorem was_emp (w : World) (tb : Nat) (h : w.cell? ⟨tb, 0, none⟩ = some (.slice none 0 0)) (f : Int) : Calls Try.prog 14 #[.pointer (some ⟨tb, 0, none⟩), .int .i64 f] w fun e w' => e = .returned (.int .i64 0) ∧ Kept w w' := by
  have HH := Lib.hid h
  clear h
  have hf := fld3
  go_enter Try.func14, Try.ntmps14
  go_wp2_with (go_at_call 25; refine (of_emp _ _ HH.out _).mono ?_; rintro e w1 ⟨rfl, hk1⟩)
  go_ret
  exact ⟨rfl, hk1⟩

set_option maxRecDepth 100000 in
set_option maxHeartbeats 1000000 in
theorem Zero_w (f : Int) (_ : (Lit.int .i64 f).wf = true) (w : World) :
    Calls Try.prog 3 #[.int .i64 f] w fun e w' => e = .returned (.bool true) ∧ Kept w w' := by
  obtain ⟨W, hW⟩ : ∃ W, W = w.alloc (.cells #[.slice none 0 0] 25) := ⟨_, rfl⟩
  have hk : Kept w W := by rw [hW]; exact (Kept.refl _).alloc _
  have hc : W.cell? ⟨w.heap.size, 0, none⟩ = some (.slice none 0 0) := by rw [hW]; simp
  have HK := Lib.hid hk
  have HC := Lib.hid hc
  clear hk hc
  go_enter Try.func3, Try.ntmps3
  go_wp2_with fail
  rw [← hW]
  clear hW
  refine (retype_nil _ _).mono ?_
  rintro e w1 ⟨rfl, hk1⟩
  have HC := Lib.hid (hk1.cell HC.out)
  have HK := Lib.hid (HK.out.trans hk1)
  clear hk1
  go_wp2_with fail
  refine (untype_emp _ _ HC.out _).mono ?_
  rintro e w1 ⟨rfl, hk1⟩
  have HC := Lib.hid (hk1.cell HC.out)
  have HK := Lib.hid (HK.out.trans hk1)
  clear hk1
  go_wp2_with fail
  refine (ref_nil _ _).mono ?_
  rintro e w1 ⟨rfl, hk1⟩
  have HC := Lib.hid (hk1.cell HC.out)
  have HK := Lib.hid (HK.out.trans hk1)
  clear hk1
  go_wp2_with fail
  refine (unref_emp _ _ HC.out _).mono ?_
  rintro e w1 ⟨rfl, hk1⟩
  have HC := Lib.hid (hk1.cell HC.out)
  have HK := Lib.hid (HK.out.trans hk1)
  clear hk1
  go_wp2_with fail
  refine (type_nil _ _).mono ?_
  rintro e w1 ⟨rfl, hk1⟩
  have HC := Lib.hid (hk1.cell HC.out)
  have HK := Lib.hid (HK.out.trans hk1)
  clear hk1
  go_wp2_with fail
  refine (count_emp _ _ HC.out _).mono ?_
  rintro e w1 ⟨rfl, hk1⟩
  have HC := Lib.hid (hk1.cell HC.out)
  have HK := Lib.hid (HK.out.trans hk1)
  clear hk1
  go_wp2_with fail
  refine (freed_nil _ _).mono ?_
  rintro e w1 ⟨rfl, hk1⟩
  have HC := Lib.hid (hk1.cell HC.out)
  have HK := Lib.hid (HK.out.trans hk1)
  clear hk1
  go_wp2_with fail
  refine (was_emp _ _ HC.out _).mono ?_
  rintro e w1 ⟨rfl, hk1⟩
  have HC := Lib.hid (hk1.cell HC.out)
  have HK := Lib.hid (HK.out.trans hk1)
  clear hk1
  go_wp2_with fail
  go_ret
  exact ⟨rfl, HK.out⟩
end Go.Proofs.Ytcmflbjaloandaa.C

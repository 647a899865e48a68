/- The walk of HwZero: lines that nobody made lead nowhere. -/
import Derived.Test.YthoklnnnnkfhcaaS
namespace Go.Proofs.Ythoklnnnnkfhcaa.C
open Go.RowKit Go.Maps

theorem of_nil (w : World) (i : Int) :
    Calls Try.prog 7 #[.pointer none, .int .i64 i] w fun e w' => e = .returned (.tuple #[.int .i64 0, .int .i64 13]) ∧ w = w' := by
  have hm := qm
  go_enter Try.func7, Try.ntmps7
  go_wp2
  go_ret2
  exact ⟨rfl, rfl⟩

theorem of_emp (w : World) (lb : Nat) (h : w.cell? ⟨lb, 0, none⟩ = some (.map none)) (i : Int) :
    Calls Try.prog 7 #[.pointer (some ⟨lb, 0, none⟩), .int .i64 i] w fun e w' => e = .returned (.tuple #[.int .i64 0, .int .i64 13]) ∧ w = w' := by
  have hm := qm
  go_enter Try.func7, Try.ntmps7
  go_wp2
  go_ret2
  exact ⟨rfl, rfl⟩

theorem detach_nil (w : World) (i : Int) :
    Calls Try.prog 8 #[.pointer none, .int .i64 i] w fun e w' => e = .returned (.tuple #[.int .i64 0, .int .i64 13]) ∧ w = w' := by
  have hm := qm
  go_enter Try.func8, Try.ntmps8
  go_wp2
  go_ret2
  exact ⟨rfl, rfl⟩

theorem detach_emp (w : World) (lb : Nat) (h : w.cell? ⟨lb, 0, none⟩ = some (.map none)) (i : Int) :
    Calls Try.prog 8 #[.pointer (some ⟨lb, 0, none⟩), .int .i64 i] w fun e w' => e = .returned (.tuple #[.int .i64 0, .int .i64 13]) ∧ w = w' := by
  have hm := qm
  go_enter Try.func8, Try.ntmps8
  go_wp2
  go_ret2
  exact ⟨rfl, rfl⟩

theorem attach_nil (w : World) (i f : Int) :
    Calls Try.prog 9 #[.pointer none, .int .i64 i, .int .i64 f] w fun e w' => e = .returned (.int .i64 13) ∧ w = w' := by
  have hm := qm
  go_enter Try.func9, Try.ntmps9
  go_wp2
  go_ret
  exact ⟨rfl, rfl⟩

theorem attach_emp (w : World) (lb : Nat) (h : w.cell? ⟨lb, 0, none⟩ = some (.map none)) (i f : Int) :
    Calls Try.prog 9 #[.pointer (some ⟨lb, 0, none⟩), .int .i64 i, .int .i64 f] w fun e w' => e = .returned (.int .i64 13) ∧ w = w' := by
  have hm := qm
  go_enter Try.func9, Try.ntmps9
  go_wp2
  go_ret
  exact ⟨rfl, rfl⟩

theorem has_nil (w : World) (f : Int) :
    Calls Try.prog 10 #[.pointer none, .int .i64 f] w fun e w' => e = .returned (.int .i64 0) ∧ w = w' := by
  have hm := qm
  go_enter Try.func10, Try.ntmps10
  go_wp2
  go_ret
  exact ⟨rfl, rfl⟩

theorem has_emp (w : World) (lb : Nat) (h : w.cell? ⟨lb, 0, none⟩ = some (.map none)) (f : Int) :
    Calls Try.prog 10 #[.pointer (some ⟨lb, 0, none⟩), .int .i64 f] w fun e w' => e = .returned (.int .i64 0) ∧ w = w' := by
  have hm := qm
  go_enter Try.func10, Try.ntmps10
  go_wp2
  go_ret
  exact ⟨rfl, rfl⟩

set_option maxRecDepth 100000 in
set_option maxHeartbeats 1000000 in
theorem Zero_w (i f : Int) (_ : (Lit.int .i64 i).wf = true) (_ : (Lit.int .i64 f).wf = true) (w : World) :
    Calls Try.prog 3 #[.int .i64 i, .int .i64 f] w fun e w' => e = .returned (.bool true) ∧ Kept w w' := by
  obtain ⟨W, hW⟩ : ∃ W, W = w.alloc (.cells #[.map none] 25) := ⟨_, rfl⟩
  have HK : Hid (Kept w W) := by rw [hW]; exact (Kept.refl _).alloc _
  have HC : Hid (W.cell? ⟨w.heap.size, 0, none⟩ = some (.map none)) := by rw [hW]; exact World.cell?_alloc_new _ _ _ _
  go_enter Try.func3, Try.ntmps3
  go_wp2_with fail
  rw [← hW]
  clear hW
  refine (of_nil _ _).mono ?_
  rintro e w1 ⟨rfl, rfl⟩
  go_wp2_with fail
  refine (detach_emp _ _ HC.out _).mono ?_
  rintro e w1 ⟨rfl, rfl⟩
  go_wp2_with fail
  refine (attach_nil _ _ _).mono ?_
  rintro e w1 ⟨rfl, rfl⟩
  go_wp2_with fail
  refine (attach_emp _ _ HC.out _ _).mono ?_
  rintro e w1 ⟨rfl, rfl⟩
  go_wp2_with fail
  refine (has_nil _ _).mono ?_
  rintro e w1 ⟨rfl, rfl⟩
  go_wp2_with fail
  refine (has_emp _ _ HC.out _).mono ?_
  rintro e w1 ⟨rfl, rfl⟩
  go_wp2_with fail
  go_ret
  exact ⟨rfl, HK.out⟩
end Go.Proofs.Ythoklnnnnkfhcaa.C

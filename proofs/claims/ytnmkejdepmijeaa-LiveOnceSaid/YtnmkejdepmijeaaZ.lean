/- The walk of LiveZero: a table that nobody made has nobody. -/
import Derived.Test.YtnmkejdepmijeaaO
namespace Go.Proofs.Ytnmkejdepmijeaa.C
open Go.RowKit

theorem awake_c (w : World) : Calls Try.prog 12 #[] w fun e w' => e = .returned (.bool true) ∧ Kept w w' := by
  go_enter Try.func12, Try.ntmps12
  go_wp2_with fail
  refine (new_c _).mono ?_
  rintro e w1 ⟨rfl, hT, hk⟩
  have HT := Lib.hid hT
  clear hT
  go_wp2_with fail
  refine (take_c _ _ _ _ _ HT.out).mono ?_
  rintro e w2 ⟨rfl, hT2, hg⟩
  rw [show take0 zeroL 0 = 0 from rfl, show take1 zeroL 0 = 0 from rfl, show take2 zeroL 0 = 0 from rfl]
  have HT2 := Lib.hid hT2
  clear hT2
  go_wp2_with fail
  refine (valid_c _ _ _ _ _ _ HT2.out).mono ?_
  rintro e w3 ⟨rfl, rfl⟩
  rw [show validB (takeL zeroL 0) 0 0 = true from rfl]
  go_wp2_with fail
  go_ret
  exact ⟨rfl, Below.grown hk hg hk.size (fun k hk => by cases hk; exact Nat.le_refl _)⟩

theorem take_nil (w : World) (fl : Int) :
    Calls Try.prog 10 #[.pointer none, .int .i64 fl] w fun e w' => e = .returned (.tuple #[.int .i64 0, .int .i64 0, .int .i64 13]) ∧ Kept w w' := by
  go_enter Try.func10, Try.ntmps10
  go_wp2
  go_ret3
  exact ⟨rfl, by repeat (first | exact Kept.refl _ | assumption | apply Kept.drewN | apply Kept.drew | apply Kept.alloc | (refine Kept.setCell ?_ (by simp) _))⟩

theorem take_emp (w : World) (tb : Nat) (h : w.cell? ⟨tb, 0, none⟩ = some (.slice none 0 0)) (fl : Int) :
    Calls Try.prog 10 #[.pointer (some ⟨tb, 0, none⟩), .int .i64 fl] w fun e w' => e = .returned (.tuple #[.int .i64 0, .int .i64 0, .int .i64 13]) ∧ Kept w w' := by
  have hlt : tb < w.heap.size := World.block_lt_of_cell? w _ h
  go_enter Try.func10, Try.ntmps10
  go_wp2
  go_ret3
  exact ⟨rfl, by repeat (first | exact Kept.refl _ | assumption | apply Kept.drewN | apply Kept.drew | apply Kept.alloc | (refine Kept.setCell ?_ (by simp) _))⟩

theorem kill_nil (w : World) (i ep now : Int) :
    Calls Try.prog 9 #[.pointer none, .int .i64 i, .int .i64 ep, .int .i64 now] w fun e w' => e = .returned (.int .i64 13) ∧ Kept w w' := by
  go_enter Try.func9, Try.ntmps9
  go_wp2
  go_ret
  exact ⟨rfl, by repeat (first | exact Kept.refl _ | assumption | apply Kept.drewN | apply Kept.drew | apply Kept.alloc | (refine Kept.setCell ?_ (by simp) _))⟩

theorem kill_emp (w : World) (tb : Nat) (h : w.cell? ⟨tb, 0, none⟩ = some (.slice none 0 0)) (i ep now : Int) :
    Calls Try.prog 9 #[.pointer (some ⟨tb, 0, none⟩), .int .i64 i, .int .i64 ep, .int .i64 now] w fun e w' => e = .returned (.int .i64 13) ∧ Kept w w' := by
  have hlt : tb < w.heap.size := World.block_lt_of_cell? w _ h
  go_enter Try.func9, Try.ntmps9
  go_wp2
  go_ret
  exact ⟨rfl, by repeat (first | exact Kept.refl _ | assumption | apply Kept.drewN | apply Kept.drew | apply Kept.alloc | (refine Kept.setCell ?_ (by simp) _))⟩

theorem valid_nil (w : World) (i ep : Int) :
    Calls Try.prog 11 #[.pointer none, .int .i64 i, .int .i64 ep] w fun e w' => e = .returned (.bool false) ∧ Kept w w' := by
  go_enter Try.func11, Try.ntmps11
  go_wp2
  go_ret
  exact ⟨rfl, by repeat (first | exact Kept.refl _ | assumption | apply Kept.drewN | apply Kept.drew | apply Kept.alloc | (refine Kept.setCell ?_ (by simp) _))⟩

theorem valid_emp (w : World) (tb : Nat) (h : w.cell? ⟨tb, 0, none⟩ = some (.slice none 0 0)) (i ep : Int) :
    Calls Try.prog 11 #[.pointer (some ⟨tb, 0, none⟩), .int .i64 i, .int .i64 ep] w fun e w' => e = .returned (.bool false) ∧ Kept w w' := by
  have hlt : tb < w.heap.size := World.block_lt_of_cell? w _ h
  go_enter Try.func11, Try.ntmps11
  go_wp2
  go_ret
  exact ⟨rfl, by repeat (first | exact Kept.refl _ | assumption | apply Kept.drewN | apply Kept.drew | apply Kept.alloc | (refine Kept.setCell ?_ (by simp) _))⟩

theorem count_nil (w : World) :
    Calls Try.prog 13 #[.pointer none] w fun e w' => e = .returned (.int .i64 0) ∧ Kept w w' := by
  go_enter Try.func13, Try.ntmps13
  go_wp2
  go_ret
  exact ⟨rfl, by repeat (first | exact Kept.refl _ | assumption | apply Kept.drewN | apply Kept.drew | apply Kept.alloc | (refine Kept.setCell ?_ (by simp) _))⟩

theorem count_emp (w : World) (tb : Nat) (h : w.cell? ⟨tb, 0, none⟩ = some (.slice none 0 0)) :
    Calls Try.prog 13 #[.pointer (some ⟨tb, 0, none⟩)] w fun e w' => e = .returned (.int .i64 0) ∧ Kept w w' := by
  have hlt : tb < w.heap.size := World.block_lt_of_cell? w _ h
  go_enter Try.func13, Try.ntmps13
  go_wp2
  go_ret
  exact ⟨rfl, by repeat (first | exact Kept.refl _ | assumption | apply Kept.drewN | apply Kept.drew | apply Kept.alloc | (refine Kept.setCell ?_ (by simp) _))⟩

set_option maxRecDepth 100000 in
set_option maxHeartbeats 1000000 in
theorem Zero_w (i e : Int) (_ : (Lit.int .i64 i).wf = true) (_ : (Lit.int .i64 e).wf = true) (w : World) :
    Calls Try.prog 4 #[.int .i64 i, .int .i64 e] w fun e w' => e = .returned (.bool true) ∧ Kept w w' := by
  obtain ⟨W, hW⟩ : ∃ W, W = w.alloc (.cells #[.slice none 0 0] 36) := ⟨_, rfl⟩
  have hk : Kept w W := by rw [hW]; exact (Kept.refl _).alloc _
  have hc : W.cell? ⟨w.heap.size, 0, none⟩ = some (.slice none 0 0) := by rw [hW]; simp
  have HK := Lib.hid hk
  have HC := Lib.hid hc
  clear hk hc
  go_enter Try.func4, Try.ntmps4
  go_wp2_with fail
  rw [← hW]
  clear hW
  refine (take_nil _ _).mono ?_
  rintro e w1 ⟨rfl, hk1⟩
  have HC := Lib.hid (hk1.cell HC.out)
  have HK := Lib.hid (HK.out.trans hk1)
  clear hk1
  go_wp2_with fail
  refine (take_emp _ _ HC.out _).mono ?_
  rintro e w1 ⟨rfl, hk1⟩
  have HC := Lib.hid (hk1.cell HC.out)
  have HK := Lib.hid (HK.out.trans hk1)
  clear hk1
  go_wp2_with fail
  refine (kill_nil _ _ _ _).mono ?_
  rintro e w1 ⟨rfl, hk1⟩
  have HC := Lib.hid (hk1.cell HC.out)
  have HK := Lib.hid (HK.out.trans hk1)
  clear hk1
  go_wp2_with fail
  refine (kill_emp _ _ HC.out _ _ _).mono ?_
  rintro e w1 ⟨rfl, hk1⟩
  have HC := Lib.hid (hk1.cell HC.out)
  have HK := Lib.hid (HK.out.trans hk1)
  clear hk1
  go_wp2_with fail
  refine (valid_nil _ _ _).mono ?_
  rintro e w1 ⟨rfl, hk1⟩
  have HC := Lib.hid (hk1.cell HC.out)
  have HK := Lib.hid (HK.out.trans hk1)
  clear hk1
  go_wp2_with fail
  refine (valid_emp _ _ HC.out _ _).mono ?_
  rintro e w1 ⟨rfl, hk1⟩
  have HC := Lib.hid (hk1.cell HC.out)
  have HK := Lib.hid (HK.out.trans hk1)
  clear hk1
  go_wp2_with fail
  refine (count_nil _).mono ?_
  rintro e w1 ⟨rfl, hk1⟩
  have HC := Lib.hid (hk1.cell HC.out)
  have HK := Lib.hid (HK.out.trans hk1)
  clear hk1
  go_wp2_with fail
  refine (count_emp _ _ HC.out).mono ?_
  rintro e w1 ⟨rfl, hk1⟩
  have HC := Lib.hid (hk1.cell HC.out)
  have HK := Lib.hid (HK.out.trans hk1)
  clear hk1
  go_wp2_with fail
  go_ret
  exact ⟨rfl, HK.out⟩
end Go.Proofs.Ytnmkejdepmijeaa.C

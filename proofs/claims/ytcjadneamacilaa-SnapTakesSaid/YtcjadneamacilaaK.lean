/- The law's awake. -/
import Derived.Test.YtcjadneamacilaaJ
namespace Go.Proofs.Ytcjadneamacilaa.C
open Go.RowKit

theorem take2 (w : World) (mb mm ms tb sb cap : Nat) (hM : Mc w mb mm ms tb sb 2 cap zeroZ (fun _ => fresh)) :
    Calls Try.prog 17 #[.pointer (some ⟨mb, 0, none⟩), .int .i64 0, .int .i64 2] w fun e w' => ∃ p, e = .returned (.tuple #[.agg #[.int .i64 0, .int .i64 2, .slice p.aw 2 p.cw, .slice p.at' 2 p.ct, .slice p.ac 2 p.cc], .int .i64 0]) ∧ Snp w' p (snapOf zeroZ (fun _ => fresh) 0 2) ∧ Kept w w' :=
  take_c w mb mm ms tb sb 2 cap 0 2 zeroZ (fun _ => fresh) hM (fun i hi => by simp [fresh]) (by omega)
theorem right2 (w : World) (p : Pl) (h : Snp w p (snapOf zeroZ (fun _ => fresh) 0 2)) :
    Calls Try.prog 23 #[.agg #[.int .i64 0, .int .i64 2, .slice p.aw 2 p.cw, .slice p.at' 2 p.ct, .slice p.ac 2 p.cc]] w fun e w' => e = .returned (.bool true) ∧ Kept w w' := by
  have hd : decide (Right (snapOf zeroZ (fun _ => fresh) 0 2)) = true := by
    refine decide_eq_true ⟨?_, fun i _ => ?_⟩
    · simp [okN, snapOf]
    · simp [okAt, snapOf, fresh]
  have := right_c w p _ h
  rw [hd] at this
  exact this

set_option maxRecDepth 100000 in
set_option maxHeartbeats 1000000 in
theorem awake_c (w : World) : Calls Try.prog 20 #[] w fun e w' => e = .returned (.bool true) ∧ Kept w w' := by
  go_enter Try.func20, Try.ntmps20
  go_wp2_with fail
  refine (mnew_c w 2 (by omega) (by omega)).mono ?_
  rintro e w1 ⟨mb, mm, ms, tb, sb, cap, rfl, hM, -, -, -, hk⟩
  have HM := Lib.hid hM
  have K1 := Lib.hid hk
  clear hM hk
  go_wp2_with fail
  refine (take2 _ _ _ _ _ _ _ HM.out).mono ?_
  rintro e w2 ⟨p, rfl, hS, hk⟩
  have HS := Lib.hid hS
  have K2 := Lib.hid (K1.out.trans hk)
  clear hS hk
  go_wp2_with (go_at_call 23; refine (right2 _ p (HS.out.kept ((Kept.refl _).alloc _))).mono ?_; rintro e w3 ⟨rfl, hk3⟩; have K3 := Lib.hid ((K2.out.alloc (.cells #[.int .i64 0, .int .i64 2, .slice p.aw 2 p.cw, .slice p.at' 2 p.ct, .slice p.ac 2 p.cc] 56)).trans hk3); have c1 := hk3.cell (p := ⟨w2.heap.size, 1, none⟩) (v := .int .i64 2) (by simp); clear hk3)
  go_ret
  exact ⟨rfl, K3.out⟩
end Go.Proofs.Ytcjadneamacilaa.C

/- The walk of LivePlays: any acts on ids tell what the reference tells. -/
import Derived.Test.YtnmkejdepmijeaaRD
namespace Go.Proofs.Ytnmkejdepmijeaa.C
open Go.RowKit

set_option maxRecDepth 100000 in
set_option maxHeartbeats 4000000 in
theorem Plays_w (a0 a1 a2 a3 : Option Addr) (l0 l1 l2 l3 c0 c1 c2 c3 : Nat) (z0 z1 z2 z3 : Nat → Int) (w : World)
    (s0 : RowI .u8 w a0 l0 z0) (s1 : RowI .i64 w a1 l1 z1) (s2 : RowI .i64 w a2 l2 z2) (s3 : RowI .i64 w a3 l3 z3) :
    Calls Try.prog 5 #[.slice a0 l0 c0, .slice a1 l1 c1, .slice a2 l2 c2, .slice a3 l3 c3] w fun e w' => e = .returned (.bool true) ∧ Kept w w' := by
  obtain ⟨m0, r0⟩ := s0
  obtain ⟨m1, r1⟩ := s1
  obtain ⟨m2, r2⟩ := s2
  obtain ⟨m3, r3⟩ := s3
  unfold maxLen at m0 m1 m2 m3
  have R0 := Lib.hid r0
  have R1 := Lib.hid r1
  have R2 := Lib.hid r2
  have R3 := Lib.hid r3
  clear r0 r1 r2 r3
  go_enter Try.func5, Try.ntmps5
  go_wp2_with fail
  refine (new_c _).mono ?_
  rintro e w1 ⟨rfl, hT, hk⟩
  have HT := Lib.hid hT
  have HK := Lib.hid hk
  clear hT hk
  go_wp2_with fail
  refine (rnew_c _).mono ?_
  rintro e w2 ⟨sb2, cap, rfl, hR, hsb, hk2⟩
  have hw1 : w.heap.size + 2 ≤ w1.heap.size := by have := HT.out.ltt; omega
  obtain ⟨tb2, htb⟩ : ∃ t, t = w1.heap.size := ⟨_, rfl⟩
  rw [← htb] at hR hsb ⊢
  have HS : Hid (Two w tb2 sb2 cap zeroL w2) := ⟨HT.out.kept hk2, hR, Kept.trans HK.out hk2, by omega, by omega⟩
  clear hR hsb hk2 hw1 htb
  go_wp2_with fail
  go_loopw [11, 12, 13, 14, 15, 16, 17] (fun i _ _ _ _ _ _ wr => ∃ (j : Nat) (L : Nat → Id), j ≤ 200 ∧ i = .int .i64 j ∧ Hid (Two w tb2 sb2 cap L wr)) (fun i _ _ _ _ _ _ _ => 200 - (intOf i).toNat)
  case atStart => exact ⟨0, zeroL, by omega, rfl, HS⟩
  case round =>
    obtain ⟨j, L, hj, rfl, hs⟩ := hrel
    clear HS
    by_cases hlt : j < l0 ∧ j < l1 ∧ j < l2 ∧ j < l3 ∧ j < 200
    · obtain ⟨q0, q1, q2, q3, q4⟩ := hlt
      obtain ⟨b0, o0, rfl, hc0⟩ := R0.out (by omega)
      obtain ⟨b1, o1, rfl, hc1⟩ := R1.out (by omega)
      obtain ⟨b2, o2, rfl, hc2⟩ := R2.out (by omega)
      obtain ⟨b3, o3, rfl, hc3⟩ := R3.out (by omega)
      have g0 := Below.old hs.out.bel (hc0 j q0).1
      have g1 := Below.old hs.out.bel (hc1 j q1).1
      have g2 := Below.old hs.out.bel (hc2 j q2).1
      have g3 := Below.old hs.out.bel (hc3 j q3).1
      have hSB : ∀ w', Below w.heap.size w w' → (w'.cell? ⟨b1, o1 + j, none⟩ = some (.int .i64 (z1 j)) ∧ w'.cell? ⟨b2, o2 + j, none⟩ = some (.int .i64 (z2 j)) ∧ w'.cell? ⟨b3, o3 + j, none⟩ = some (.int .i64 (z3 j))) :=
        fun w' hb => ⟨Below.old hb (hc1 j q1).1, Below.old hb (hc2 j q2).1, Below.old hb (hc3 j q3).1⟩
      have HSB := Lib.hid hSB
      have hb2 := hs.out.bel
      have i0 : (0 : Int) ≤ j := by omega
      have i1 : (j : Int) < l1 := by omega
      have i2 : (j : Int) < l2 := by omega
      have i3 : (j : Int) < l3 := by omega
      clear hc0 hc1 hc2 hc3 hSB R0 R1 R2 R3 HT HK
      go_wp2_with fail
      · go_region_held3 (fun w' => w'.cell? ⟨b1, o1 + j, none⟩ = some (.int .i64 (z1 j)) ∧ w'.cell? ⟨b2, o2 + j, none⟩ = some (.int .i64 (z2 j)) ∧ w'.cell? ⟨b3, o3 + j, none⟩ = some (.int .i64 (z3 j)))
          (first | exact HSB.out _ hb4 | exact HSB.out _ hb3 | exact HSB.out _ hb2.drew | exact HSB.out _ hb2)
          (first
           | (go_at_call 9; refine (kill_c _ (w.heap.size + 1) w.heap.size L _ _ _ ?_).mono ?_; (first | exact hs.out.t | exact (hs.out.kept ((Kept.refl _).drew)).t); rintro e w3 ⟨rfl, hT3, hg3⟩; have hx := (hs.out.kept ((Kept.refl _).drew)).stepT hT3 hg3; have hb3 := hx.2.2.1; have HX := Lib.hid hx; clear hx hT3 hg3)
           | (go_at_call 15; refine (rkill_c _ _ _ _ _ _ _ _ HX.out.2.1).mono ?_; rintro e w4 ⟨rfl, hR4, hg4⟩; have hy := Two.stepR HX.out hR4 hg4; have hb4 := hy.bel; have HY := Lib.hid hy; clear hy hR4 hg4))
        go_wp2_with fail
        go_region_held3 (fun w' => w'.cell? ⟨b1, o1 + j, none⟩ = some (.int .i64 (z1 j)) ∧ w'.cell? ⟨b2, o2 + j, none⟩ = some (.int .i64 (z2 j)) ∧ w'.cell? ⟨b3, o3 + j, none⟩ = some (.int .i64 (z3 j)))
          (first | exact HSB.out _ hb5 | exact HSB.out _ hb4.drew | exact HSB.out _ hb4)
          (first
           | (go_at_call 11; refine (valid_c _ (w.heap.size + 1) w.heap.size (killL L (z1 j) (z2 j) (z3 j)) _ _ ?_).mono ?_; (first | exact HY.out.t | exact (HY.out.kept ((Kept.refl _).drew)).t); rintro e w' ⟨rfl, rfl⟩)
           | (go_at_call 17; refine (rvalid_c _ tb2 sb2 cap (killL L (z1 j) (z2 j) (z3 j)) _ _ ?_).mono ?_; (first | exact HY.out.r | exact (HY.out.kept ((Kept.refl _).drew)).r); rintro e w' ⟨rfl, rfl⟩)
           | (go_at_call 13; refine (count_c _ (w.heap.size + 1) w.heap.size (killL L (z1 j) (z2 j) (z3 j)) ?_).mono ?_; (first | exact HY.out.t | exact (HY.out.kept ((Kept.refl _).drew)).t); rintro e w5 ⟨rfl, hk5⟩; have hy5 := (HY.out.kept ((Kept.refl _).drew)).kept hk5; have hb5 := hy5.bel; have HZ := Lib.hid hy5; clear hy5 hk5)
           | (go_at_call 18; refine (rcount_c _ tb2 sb2 cap (killL L (z1 j) (z2 j) (z3 j)) HZ.out.r).mono ?_; rintro e w' ⟨rfl, rfl⟩))
        go_wp2_with fail
        go_roundw
        case rel => exact ⟨j + 1, _, by omega, by go_num, HZ.out⟩
        case measure => simp [intOf]; omega
      · refine (take_c _ _ _ _ _ hs.out.t).mono ?_
        rintro e w3 ⟨rfl, hT3, hg3⟩
        have hx := hs.out.stepT hT3 hg3
        have HX := Lib.hid hx
        have g3' := (HSB.out _ hx.2.2.1).2.2
        clear hx hT3 hg3
        go_wp2_with fail
        refine (rtake_c _ _ _ _ _ _ HX.out.2.1).mono ?_
        rintro e w4 ⟨rfl, hR4, hg4⟩
        have hy := Two.stepR HX.out hR4 hg4
        have hb4 := hy.bel
        have HY := Lib.hid hy
        clear hy hR4 hg4
        go_wp2_with fail
        go_region_held3 (fun w' => w'.cell? ⟨b1, o1 + j, none⟩ = some (.int .i64 (z1 j)) ∧ w'.cell? ⟨b2, o2 + j, none⟩ = some (.int .i64 (z2 j)) ∧ w'.cell? ⟨b3, o3 + j, none⟩ = some (.int .i64 (z3 j)))
          (first | exact HSB.out _ hb5 | exact HSB.out _ hb4.drew | exact HSB.out _ hb4)
          (first
           | (go_at_call 11; refine (valid_c _ (w.heap.size + 1) w.heap.size (takeL L (z3 j)) _ _ ?_).mono ?_; (first | exact HY.out.t | exact (HY.out.kept ((Kept.refl _).drew)).t); rintro e w' ⟨rfl, rfl⟩)
           | (go_at_call 17; refine (rvalid_c _ tb2 sb2 cap (takeL L (z3 j)) _ _ ?_).mono ?_; (first | exact HY.out.r | exact (HY.out.kept ((Kept.refl _).drew)).r); rintro e w' ⟨rfl, rfl⟩)
           | (go_at_call 13; refine (count_c _ (w.heap.size + 1) w.heap.size (takeL L (z3 j)) ?_).mono ?_; (first | exact HY.out.t | exact (HY.out.kept ((Kept.refl _).drew)).t); rintro e w5 ⟨rfl, hk5⟩; have hy5 := (HY.out.kept ((Kept.refl _).drew)).kept hk5; have hb5 := hy5.bel; have HZ := Lib.hid hy5; clear hy5 hk5)
           | (go_at_call 18; refine (rcount_c _ tb2 sb2 cap (takeL L (z3 j)) HZ.out.r).mono ?_; rintro e w' ⟨rfl, rfl⟩))
        go_wp2_with fail
        go_roundw
        case rel => exact ⟨j + 1, _, by omega, by go_num, HZ.out⟩
        case measure => simp [intOf]; omega
    · clear R0 R1 R2 R3
      by_cases q0 : j < l0 <;> by_cases q1 : j < l1 <;> by_cases q2 : j < l2 <;> by_cases q3 : j < l3 <;> by_cases q4 : j < 200
      all_goals
        first
        | (exfalso; omega)
        | (clear hlt
           go_wp2_with fail
           refine (awake_c _).mono ?_
           rintro e w7 ⟨rfl, hk7⟩
           have hb7 := Lib.hid (hs.out.kept hk7).bel
           clear hk7
           go_wp2_with fail
           go_ret
           exact ⟨rfl, hb7.out⟩)
end Go.Proofs.Ytnmkejdepmijeaa.C

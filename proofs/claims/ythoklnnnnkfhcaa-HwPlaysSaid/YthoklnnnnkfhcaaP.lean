/- The walk of HwPlays: any acts on lines tell what the reference tells. -/
import Derived.Test.YthoklnnnnkfhcaaS
import Derived.Deep.RegionHeld3
namespace Go.Proofs.Ythoklnnnnkfhcaa.C
open Go.RowKit Go.Maps

structure Two (w : World) (tb2 sb2 cap n : Nat) (M : Nat → Option Int) (wr : World) : Prop where
  t : Lns wr (w.heap.size + 1) w.heap.size n M
  r : RL wr tb2 sb2 cap M
  bel : Below w.heap.size w wr
  h1 : w.heap.size + 2 ≤ tb2
  h2 : w.heap.size + 2 ≤ sb2
  fr : Fr M
/-- Between the two calls. -/
structure Half (w : World) (tb2 sb2 cap n : Nat) (L M : Nat → Option Int) (wr : World) : Prop where
  t : Lns wr (w.heap.size + 1) w.heap.size n M
  r : RL wr tb2 sb2 cap L
  bel : Below w.heap.size w wr
  h1 : w.heap.size + 2 ≤ tb2
  h2 : w.heap.size + 2 ≤ sb2
  fl : Fr L
  fr : Fr M
theorem Two.stepT {w a b : World} {tb2 sb2 cap n m : Nat} {L M : Nat → Option Int} (h : Two w tb2 sb2 cap n L a) (t : Lns b (w.heap.size + 1) w.heap.size m M) (g : a.grownBy b (some w.heap.size)) (hf : Fr M) : Half w tb2 sb2 cap m L M b := by
  have h1 := h.h1
  have h2 := h.h2
  exact ⟨t, h.r.grown g (fun e => by injection e; omega) (fun e => by injection e; omega), h.bel.grown g h.bel.size (fun k hk => by cases hk; exact Nat.le_refl _), h1, h2, h.fr, hf⟩
theorem Half.stepR {w b c : World} {tb2 sb2 cap n : Nat} {L M : Nat → Option Int} (h : Half w tb2 sb2 cap n L M b) (r : RL c tb2 sb2 cap M) (g : b.grownBy c (some sb2)) : Two w tb2 sb2 cap n M c := by
  have h1 := h.h1
  have h2 := h.h2
  exact ⟨h.t.grown g (fun e => by injection e; omega) (fun e => by injection e; omega), r, h.bel.grown g h.bel.size (fun k hk => by cases hk; omega), h1, h2, h.fr⟩
theorem Two.kept {w a b : World} {tb2 sb2 cap n : Nat} {L : Nat → Option Int} (h : Two w tb2 sb2 cap n L a) (k : Kept a b) : Two w tb2 sb2 cap n L b :=
  ⟨h.t.kept k, h.r.kept k, h.bel.trans (Below.mono k h.bel.size), h.h1, h.h2, h.fr⟩

set_option maxRecDepth 100000 in
set_option maxHeartbeats 4000000 in
theorem Plays_w (a0 a1 a2 : Option Addr) (l0 l1 l2 c0 c1 c2 : Nat) (z0 z1 z2 : Nat → Int) (w : World)
    (s0 : RowI .u8 w a0 l0 z0) (s1 : RowI .i64 w a1 l1 z1) (s2 : RowI .i64 w a2 l2 z2) :
    Calls Try.prog 4 #[.slice a0 l0 c0, .slice a1 l1 c1, .slice a2 l2 c2] w fun e w' => e = .returned (.bool true) ∧ Kept w w' := by
  obtain ⟨m0, r0⟩ := s0
  obtain ⟨m1, r1⟩ := s1
  obtain ⟨m2, r2⟩ := s2
  unfold maxLen at m0 m1 m2
  have R0 := Lib.hid r0
  have R1 := Lib.hid r1
  have R2 := Lib.hid r2
  clear r0 r1 r2
  go_enter Try.func4, Try.ntmps4
  go_wp2_with fail
  refine (new_c _).mono ?_
  rintro e w1 ⟨rfl, hT, hk⟩
  have HT := Lib.hid hT
  have HK := Lib.hid hk
  clear hT hk
  go_wp2_with fail
  refine (rnew_c _).mono ?_
  rintro e w2 ⟨sb2, cap, rfl, hR, hsb, hk2⟩
  have hw1 : w.heap.size + 2 ≤ w1.heap.size := by have := HT.out.lt; omega
  obtain ⟨tb2, htb⟩ : ∃ t, t = w1.heap.size := ⟨_, rfl⟩
  rw [← htb] at hR hsb ⊢
  have HS : Hid (Two w tb2 sb2 cap 0 (fun _ => none) w2) := ⟨HT.out.kept hk2, hR, Kept.trans HK.out hk2, by omega, by omega, fun i f h => by cases h⟩
  clear hR hsb hk2 hw1 htb
  go_wp2_with fail
  go_loopw [9, 10, 11, 12, 13, 14, 15, 16, 17] (fun i _ _ _ _ _ _ _ _ wr => ∃ (j n : Nat) (L : Nat → Option Int), j ≤ 100 ∧ n ≤ j ∧ i = .int .i64 j ∧ Hid (Two w tb2 sb2 cap n L wr)) (fun i _ _ _ _ _ _ _ _ _ => 100 - (intOf i).toNat)
  case atStart => exact ⟨0, 0, _, by omega, by omega, rfl, HS⟩
  case round =>
    obtain ⟨j, n, L, hj, hnj, rfl, hs⟩ := hrel
    clear HS
    by_cases hlt : j < l0 ∧ j < l1 ∧ j < l2 ∧ j < 100
    · obtain ⟨q0, q1, q2, q4⟩ := hlt
      obtain ⟨b0, o0, rfl, hc0⟩ := R0.out (by omega)
      obtain ⟨b1, o1, rfl, hc1⟩ := R1.out (by omega)
      obtain ⟨b2, o2, rfl, hc2⟩ := R2.out (by omega)
      have g0 := Below.old hs.out.bel (hc0 j q0).1
      have g1 := Below.old hs.out.bel (hc1 j q1).1
      have g2 := Below.old hs.out.bel (hc2 j q2).1
      have hSB : ∀ w', Below w.heap.size w w' → (w'.cell? ⟨b1, o1 + j, none⟩ = some (.int .i64 (z1 j)) ∧ w'.cell? ⟨b2, o2 + j, none⟩ = some (.int .i64 (z2 j))) :=
        fun w' hb => ⟨Below.old hb (hc1 j q1).1, Below.old hb (hc2 j q2).1⟩
      have HSB := Lib.hid hSB
      have hb2 := hs.out.bel
      have i0 : (0 : Int) ≤ j := by omega
      have i1 : (j : Int) < l1 := by omega
      have i2 : (j : Int) < l2 := by omega
      clear hc0 hc1 hc2 hSB R0 R1 R2 HT HK
      go_wp2_with fail
      · refine (detach_c _ _ _ _ _ _ hs.out.t).mono ?_
        rintro e w3 ⟨rfl, hT3, hg3⟩
        have HX := Lib.hid (hs.out.stepT hT3 hg3 (hs.out.fr.de _))
        have g1b := (HSB.out _ HX.out.bel).1
        clear hT3 hg3
        go_wp2_with fail
        refine (rdetach_c _ _ _ _ _ _ HX.out.r HX.out.fl).mono ?_
        rintro e w4 ⟨rfl, hR4, hg4⟩
        have HY := Lib.hid (HX.out.stepR hR4 hg4)
        clear hR4 hg4 g1b
        have g1c := (HSB.out _ HY.out.bel).1
        go_wp2_with fail
        refine (of_c _ _ _ _ _ _ HY.out.t).mono ?_
        rintro e w5 ⟨rfl, rfl⟩
        go_wp2_with fail
        refine (rof_c _ _ _ _ _ _ HY.out.r HY.out.fr).mono ?_
        rintro e w6 ⟨rfl, rfl⟩
        go_wp2_with fail
        have hb4 := HY.out.bel
        go_region_held3 (fun w' => w'.cell? ⟨b1, o1 + j, none⟩ = some (.int .i64 (z1 j)) ∧ w'.cell? ⟨b2, o2 + j, none⟩ = some (.int .i64 (z2 j)))
          (first | exact HSB.out _ hb4.drew | exact HSB.out _ hb4)
          (first
           | (go_at_call 10; refine (has_c _ (w.heap.size + 1) w.heap.size (n) (deM L (z1 j)) _ ?_).mono ?_; (first | exact HY.out.t | exact (HY.out.kept ((Kept.refl _).drew)).t); rintro e w' ⟨rfl, rfl⟩)
           | (go_at_call 16; refine (rhas_c _ tb2 sb2 cap (deM L (z1 j)) _ ?_ HY.out.fr).mono ?_; (first | exact HY.out.r | exact (HY.out.kept ((Kept.refl _).drew)).r); rintro e w' ⟨rfl, rfl⟩))
        go_wp2_with fail
        go_roundw
        case rel => exact ⟨j + 1, _, _, by omega, by omega, by go_num, HY.out.kept (Kept.refl _).drew⟩
        case measure => simp [intOf]; omega
      · go_region_held3 (fun w' => w'.cell? ⟨b1, o1 + j, none⟩ = some (.int .i64 (z1 j)) ∧ w'.cell? ⟨b2, o2 + j, none⟩ = some (.int .i64 (z2 j)))
          (first | exact HSB.out _ hb4 | exact HSB.out _ hb3 | exact HSB.out _ hb2.drew | exact HSB.out _ hb2)
          (first
           | (go_at_call 9; refine (attach_c _ (w.heap.size + 1) w.heap.size n L _ _ (by omega) ?_).mono ?_; (first | exact hs.out.t | exact (hs.out.kept ((Kept.refl _).drew)).t); rintro e w3 ⟨rfl, hT3, hg3⟩; have HX := Lib.hid ((hs.out.kept ((Kept.refl _).drew)).stepT hT3 hg3 (hs.out.fr.at _ _)); have hb3 := HX.out.bel; clear hT3 hg3)
           | (go_at_call 14; refine (rattach_c _ _ _ _ _ _ _ HX.out.r HX.out.fl).mono ?_; rintro e w4 ⟨rfl, hR4, hg4⟩; have HY := Lib.hid (HX.out.stepR hR4 hg4); have hb4 := HY.out.bel; clear hR4 hg4))
        have g1c := (HSB.out _ HY.out.bel).1
        go_wp2_with fail
        refine (of_c _ _ _ _ _ _ HY.out.t).mono ?_
        rintro e w5 ⟨rfl, rfl⟩
        go_wp2_with fail
        refine (rof_c _ _ _ _ _ _ HY.out.r HY.out.fr).mono ?_
        rintro e w6 ⟨rfl, rfl⟩
        go_wp2_with fail
        have hb4 := HY.out.bel
        go_region_held3 (fun w' => w'.cell? ⟨b1, o1 + j, none⟩ = some (.int .i64 (z1 j)) ∧ w'.cell? ⟨b2, o2 + j, none⟩ = some (.int .i64 (z2 j)))
          (first | exact HSB.out _ hb4.drew | exact HSB.out _ hb4)
          (first
           | (go_at_call 10; refine (has_c _ (w.heap.size + 1) w.heap.size (n + 1) (atM L (z1 j) (z2 j)) _ ?_).mono ?_; (first | exact HY.out.t | exact (HY.out.kept ((Kept.refl _).drew)).t); rintro e w' ⟨rfl, rfl⟩)
           | (go_at_call 16; refine (rhas_c _ tb2 sb2 cap (atM L (z1 j) (z2 j)) _ ?_ HY.out.fr).mono ?_; (first | exact HY.out.r | exact (HY.out.kept ((Kept.refl _).drew)).r); rintro e w' ⟨rfl, rfl⟩))
        go_wp2_with fail
        go_roundw
        case rel => exact ⟨j + 1, _, _, by omega, by omega, by go_num, HY.out.kept (Kept.refl _).drew⟩
        case measure => simp [intOf]; omega
    · clear R0 R1 R2
      by_cases q0 : j < l0 <;> by_cases q1 : j < l1 <;> by_cases q2 : j < l2 <;> by_cases q4 : j < 100
      all_goals
        first
        | (exfalso; omega)
        | (clear hlt
           go_wp2_with fail
           refine (awake_c _).mono ?_
           rintro e w7 ⟨rfl, hk7⟩
           have hb7 := Lib.hid (hs.out.kept hk7).bel
           clear hk7
           go_wp2_with fail
           go_ret
           exact ⟨rfl, hb7.out⟩)
end Go.Proofs.Ythoklnnnnkfhcaa.C

/- The walk of TypPlays: any acts on frames tell what the reference tells. -/
import Derived.Test.YtcmflbjaloandaaT1
import Derived.Deep.RegionHeld3
import Derived.Deep.CutBlock
namespace Go.Proofs.Ytcmflbjaloandaa.C
open Go.RowKit

/-- The program's table tells L, the reference's tells R. -/
structure Two (w : World) (sb n cap tb2 sb2 cap2 : Nat) (L R : Nat → Fm) (wr : World) : Prop where
  t : Tb wr w.heap.size sb n cap L
  r : Tb wr tb2 sb2 n cap2 R
  bel : Kept w wr
  b1 : w.heap.size < sb
  b2 : sb < tb2
  b3 : tb2 < sb2
theorem Two.kept {w wr w' : World} {sb n cap tb2 sb2 cap2 : Nat} {L R : Nat → Fm} (h : Two w sb n cap tb2 sb2 cap2 L R wr) (k : Kept wr w') : Two w sb n cap tb2 sb2 cap2 L R w' :=
  ⟨h.t.kept k, h.r.kept k, h.bel.trans k, h.b1, h.b2, h.b3⟩
theorem Two.stepT {w wr w' : World} {sb n cap tb2 sb2 cap2 : Nat} {L R L' : Nat → Fm} (h : Two w sb n cap tb2 sb2 cap2 L R wr) (hT : Tb w' w.heap.size sb n cap L') (g : wr.grownBy w' (some sb)) : Two w sb n cap tb2 sb2 cap2 L' R w' := by
  have h1 := h.b1
  have h2 := h.b2
  have h3 := h.b3
  exact ⟨hT, h.r.grown g (by intro e; injection e with e; omega) (by intro e; injection e with e; omega), h.bel.on (by omega) g, h1, h2, h3⟩
theorem Two.stepR {w wr w' : World} {sb n cap tb2 sb2 cap2 : Nat} {L R R' : Nat → Fm} (h : Two w sb n cap tb2 sb2 cap2 L R wr) (hR : Tb w' tb2 sb2 n cap2 R') (g : wr.grownBy w' (some sb2)) : Two w sb n cap tb2 sb2 cap2 L R' w' := by
  have h1 := h.b1
  have h2 := h.b2
  have h3 := h.b3
  exact ⟨h.t.grown g (by intro e; injection e with e; omega) (by intro e; injection e with e; omega), hR, h.bel.on (by omega) g, h1, h2, h3⟩

theorem ycells (w : World) (a b c d : Int) (w' : World) (h : Kept (w.alloc (.cells #[.int .i64 a, .int .i64 b, .int .i64 c, .int .i64 d] 45)) w') :
    w'.cell? ⟨w.heap.size, 0, none⟩ = some (.int .i64 a) ∧ w'.cell? ⟨w.heap.size, 1, none⟩ = some (.int .i64 b) ∧ w'.cell? ⟨w.heap.size, 2, none⟩ = some (.int .i64 c) ∧ w'.cell? ⟨w.heap.size, 3, none⟩ = some (.int .i64 d) :=
  ⟨h.cell (by simp), h.cell (by simp), h.cell (by simp), h.cell (by simp)⟩

set_option maxRecDepth 100000 in
set_option maxHeartbeats 4000000 in
theorem Plays_w (F : Int) (a1 a2 a3 a4 : Option Addr) (l1 l2 l3 l4 c1 c2 c3 c4 : Nat) (z1 z2 z3 : Nat → Int) (z4 : Nat → Bool) (w : World)
    (_ : (Lit.int .i64 F).wf = true) (s1 : RowI .u8 w a1 l1 z1) (s2 : RowI .i64 w a2 l2 z2) (s3 : RowI .i64 w a3 l3 z3) (s4 : RowB w a4 l4 z4) :
    Calls Try.prog 5 #[.int .i64 F, .slice a1 l1 c1, .slice a2 l2 c2, .slice a3 l3 c3, .slice a4 l4 c4] w fun e w' => e = .returned (.bool true) ∧ Kept w w' := by
  obtain ⟨m1, r1⟩ := s1
  obtain ⟨m2, r2⟩ := s2
  obtain ⟨m3, r3⟩ := s3
  obtain ⟨m4, r4⟩ := s4
  unfold maxLen at m1 m2 m3 m4
  have R1 := Lib.hid r1
  have R2 := Lib.hid r2
  have R3 := Lib.hid r3
  have R4 := Lib.hid r4
  clear r1 r2 r3 r4
  by_cases hF : F < 1 ∨ 64 < F
  · have HF := Lib.hid hF
    clear hF
    go_enter Try.func5, Try.ntmps5
    go_wp2_with fail
    refine (new_bad _ F HF.out).mono ?_
    rintro e w1 ⟨rfl, rfl⟩
    go_wp2_with fail
    refine (rnew_bad _ F HF.out).mono ?_
    rintro e w1 ⟨rfl, rfl⟩
    go_wp2_with fail
    refine (awake_c _).mono ?_
    rintro e w7 ⟨rfl, hk7⟩
    have HK := Lib.hid hk7
    clear hk7
    go_wp2_with fail
    go_ret
    exact ⟨rfl, HK.out⟩
  · obtain ⟨n, rfl⟩ : ∃ n : Nat, F = n := ⟨F.toNat, by omega⟩
    have hn1 : 0 < n := by omega
    have hn2 : n ≤ 64 := by omega
    clear hF
    go_enter Try.func5, Try.ntmps5
    go_wp2_with fail
    refine (new_c _ n hn1 hn2).mono ?_
    rintro e w1 ⟨sb, cap, rfl, hT, hsb, hk⟩
    have HT := Lib.hid hT
    have HK := Lib.hid hk
    clear hT hk
    go_wp2_with fail
    refine (rnew_c _ n hn1 hn2).mono ?_
    rintro e w2 ⟨sb2, cap2, rfl, hR, hsb2, hk2⟩
    have hw1 : sb < w1.heap.size := HT.out.lt
    have hw2 : w.heap.size ≠ sb := HT.out.ne
    obtain ⟨tb2, htb⟩ : ∃ t, t = w1.heap.size := ⟨_, rfl⟩
    rw [← htb] at hR hsb2 hw1 ⊢
    have hw3 : tb2 ≠ sb2 := hR.ne
    have HS : Hid (Two w sb n cap tb2 sb2 cap2 (fun _ => fresh) (fun _ => fresh) w2) := ⟨HT.out.kept hk2, hR, Kept.trans HK.out hk2, by omega, by omega, by omega⟩
    clear hR hsb2 hsb hk2 hw1 hw2 hw3 htb HT HK hn1 hn2
    go_wp2_with fail
    go_loopw [15] (fun i wr => ∃ (j : Nat) (L : Nat → Fm), j ≤ 200 ∧ i = .int .i64 j ∧ Hid (Two w sb n cap tb2 sb2 cap2 L L wr)) (fun i _ => 200 - (intOf i).toNat)
    case atStart => exact ⟨0, _, by omega, rfl, HS⟩
    case round =>
      obtain ⟨j, L, hj, rfl, hs⟩ := hrel
      clear HS
      by_cases hlt : j < l1 ∧ j < l2 ∧ j < l3 ∧ j < l4 ∧ j < 200
      · obtain ⟨q1, q2, q3, q4, q5⟩ := hlt
        obtain ⟨b1, o1, rfl, hc1⟩ := R1.out (by omega)
        obtain ⟨b2, o2, rfl, hc2⟩ := R2.out (by omega)
        obtain ⟨b3, o3, rfl, hc3⟩ := R3.out (by omega)
        obtain ⟨b4, o4, rfl, hc4⟩ := R4.out (by omega)
        have g1 := Below.old hs.out.bel (hc1 j q1).1
        have g2 := Below.old hs.out.bel (hc2 j q2).1
        have hSB : ∀ w', Kept w w' → (w'.cell? ⟨b2, o2 + j, none⟩ = some (.int .i64 (z2 j)) ∧ w'.cell? ⟨b3, o3 + j, none⟩ = some (.int .i64 (z3 j)) ∧ w'.cell? ⟨b4, o4 + j, none⟩ = some (.bool (z4 j))) :=
          fun w' hb => ⟨Below.old hb (hc2 j q2).1, Below.old hb (hc3 j q3).1, Below.old hb (hc4 j q4)⟩
        have HSB := Lib.hid hSB
        have hb2 := hs.out.bel
        obtain ⟨u1, u2⟩ := bd_u8 (hc1 j q1).2
        have i0 : (0 : Int) ≤ j := by omega
        have i1 : (j : Int) < l1 := by omega
        have i2 : (j : Int) < l2 := by omega
        have i3 : (j : Int) < l3 := by omega
        have i4 : (j : Int) < l4 := by omega
        clear hc1 hc2 hc3 hc4 hSB R1 R2 R3 R4
        have hk4 : z1 j % 4 = 0 ∨ z1 j % 4 = 1 ∨ z1 j % 4 = 2 ∨ z1 j % 4 = 3 := by omega
        go_upto_block 2 with fail
        go_cut [16, 17] from 42 to 221 (fun s16 s17 wx => ∃ (E : Int) (L' : Nat → Fm), s16 = .int .i64 E ∧ s17 = .int .i64 E ∧ Hid (Two w sb n cap tb2 sb2 cap2 L' L' wx))
        case first =>
          rcases hk4 with hm | hm | hm | hm
          · go_wp2_with fail
            go_region_held3 (fun w' => w'.cell? ⟨b2, o2 + j, none⟩ = some (.int .i64 (z2 j)) ∧ w'.cell? ⟨b3, o3 + j, none⟩ = some (.int .i64 (z3 j)) ∧ w'.cell? ⟨b4, o4 + j, none⟩ = some (.bool (z4 j)))
              (first | exact HSB.out _ hb3 | exact HSB.out _ hb2.drew | exact HSB.out _ hb2)
              (first
               | (go_at_call 7; refine (retype_c _ w.heap.size sb n cap L _ _ _ ?_).mono ?_; (first | exact hs.out.t | exact (hs.out.kept ((Kept.refl _).drew)).t); rintro e w3 ⟨rfl, hT3, hg3⟩; have hx := (hs.out.kept ((Kept.refl _).drew)).stepT hT3 hg3; have hb3 := hx.bel; have HX := Lib.hid hx; clear hx hT3 hg3))
            go_wp2_with fail
            go_region_held3 (fun w' => w'.cell? ⟨b2, o2 + j, none⟩ = some (.int .i64 (z2 j)) ∧ w'.cell? ⟨b3, o3 + j, none⟩ = some (.int .i64 (z3 j)) ∧ w'.cell? ⟨b4, o4 + j, none⟩ = some (.bool (z4 j)))
              (first | exact HSB.out _ hb4 | exact HSB.out _ hb3.drew | exact HSB.out _ hb3)
              (first
               | (go_at_call 18; refine (rretype_c _ tb2 sb2 n cap2 L _ _ _ ?_).mono ?_; (first | exact HX.out.r | exact (HX.out.kept ((Kept.refl _).drew)).r); rintro e w4 ⟨rfl, hR4, hg4⟩; have hy := (HX.out.kept ((Kept.refl _).drew)).stepR hR4 hg4; have hb4 := hy.bel; have HY := Lib.hid hy; clear hy hR4 hg4))
            go_wp2_with fail
            go_meet
            case rel => exact ⟨_, _, rfl, rfl, HY⟩
          · go_wp2_with fail
            go_region_held3 (fun w' => w'.cell? ⟨b2, o2 + j, none⟩ = some (.int .i64 (z2 j)) ∧ w'.cell? ⟨b3, o3 + j, none⟩ = some (.int .i64 (z3 j)) ∧ w'.cell? ⟨b4, o4 + j, none⟩ = some (.bool (z4 j)))
              (first | exact HSB.out _ hb3 | exact HSB.out _ hb2.drew | exact HSB.out _ hb2)
              (first
               | (go_at_call 8; refine (untype_c _ w.heap.size sb n cap L _ _ _ ?_).mono ?_; (first | exact hs.out.t | exact (hs.out.kept ((Kept.refl _).drew)).t); rintro e w3 ⟨rfl, hT3, hg3⟩; have hx := (hs.out.kept ((Kept.refl _).drew)).stepT hT3 hg3; have hb3 := hx.bel; have HX := Lib.hid hx; clear hx hT3 hg3))
            go_wp2_with fail
            go_region_held3 (fun w' => w'.cell? ⟨b2, o2 + j, none⟩ = some (.int .i64 (z2 j)) ∧ w'.cell? ⟨b3, o3 + j, none⟩ = some (.int .i64 (z3 j)) ∧ w'.cell? ⟨b4, o4 + j, none⟩ = some (.bool (z4 j)))
              (first | exact HSB.out _ hb4 | exact HSB.out _ hb3.drew | exact HSB.out _ hb3)
              (first
               | (go_at_call 19; refine (runtype_c _ tb2 sb2 n cap2 L _ _ _ ?_).mono ?_; (first | exact HX.out.r | exact (HX.out.kept ((Kept.refl _).drew)).r); rintro e w4 ⟨rfl, hR4, hg4⟩; have hy := (HX.out.kept ((Kept.refl _).drew)).stepR hR4 hg4; have hb4 := hy.bel; have HY := Lib.hid hy; clear hy hR4 hg4))
            go_wp2_with fail
            go_meet
            case rel => exact ⟨_, _, rfl, rfl, HY⟩
          · go_wp2_with fail
            refine (ref_c _ w.heap.size sb n cap L _ hs.out.t).mono ?_
            rintro e w3 ⟨rfl, hT3, hg3⟩
            have hx := hs.out.stepT hT3 hg3
            have hb3 := hx.bel
            have HX := Lib.hid hx
            have g2b := (HSB.out _ hb3).1
            clear hx hT3 hg3
            go_wp2_with fail
            refine (rref_c _ tb2 sb2 n cap2 L _ HX.out.r).mono ?_
            rintro e w4 ⟨rfl, hR4, hg4⟩
            have hy := HX.out.stepR hR4 hg4
            have hb4 := hy.bel
            have HY := Lib.hid hy
            clear hy hR4 hg4
            go_wp2_with fail
            go_meet
            case rel => exact ⟨_, _, rfl, rfl, HY⟩
          · go_wp2_with fail
            go_region_held3 (fun w' => w'.cell? ⟨b2, o2 + j, none⟩ = some (.int .i64 (z2 j)) ∧ w'.cell? ⟨b3, o3 + j, none⟩ = some (.int .i64 (z3 j)) ∧ w'.cell? ⟨b4, o4 + j, none⟩ = some (.bool (z4 j)))
              (first | exact HSB.out _ hb3 | exact HSB.out _ hb2.drew | exact HSB.out _ hb2)
              (first
               | (go_at_call 10; refine (unref_c _ w.heap.size sb n cap L _ _ ?_).mono ?_; (first | exact hs.out.t | exact (hs.out.kept ((Kept.refl _).drew)).t); rintro e w3 ⟨rfl, hT3, hg3⟩; have hx := (hs.out.kept ((Kept.refl _).drew)).stepT hT3 hg3; have hb3 := hx.bel; have HX := Lib.hid hx; clear hx hT3 hg3))
            go_wp2_with fail
            go_region_held3 (fun w' => w'.cell? ⟨b2, o2 + j, none⟩ = some (.int .i64 (z2 j)) ∧ w'.cell? ⟨b3, o3 + j, none⟩ = some (.int .i64 (z3 j)) ∧ w'.cell? ⟨b4, o4 + j, none⟩ = some (.bool (z4 j)))
              (first | exact HSB.out _ hb4 | exact HSB.out _ hb3.drew | exact HSB.out _ hb3)
              (first
               | (go_at_call 21; refine (runref_c _ tb2 sb2 n cap2 L _ _ ?_).mono ?_; (first | exact HX.out.r | exact (HX.out.kept ((Kept.refl _).drew)).r); rintro e w4 ⟨rfl, hR4, hg4⟩; have hy := (HX.out.kept ((Kept.refl _).drew)).stepR hR4 hg4; have hb4 := hy.bel; have HY := Lib.hid hy; clear hy hR4 hg4))
            go_wp2_with fail
            go_meet
            case rel => exact ⟨_, _, rfl, rfl, HY⟩
        case rest =>
          obtain ⟨E', L', rfl, rfl, HY⟩ := hcut
          have g2c := (HSB.out _ HY.out.bel).1
          clear hk4
          go_wp2_with fail
          refine (rof_c _ tb2 sb2 n cap2 L' _ HY.out.r).mono ?_
          rintro e w5 ⟨rfl, hk5⟩
          have hy5 := HY.out.kept hk5
          have hb5 := hy5.bel
          have HZ := Lib.hid hy5
          clear hy5 hk5 HY
          go_wp2_with fail
          have HYC := Lib.hid (ycells w5 (getF n L' (z2 j)).ty (getF n L' (z2 j)).ct (getF n L' (z2 j)).fr (getF n L' (z2 j)).wa)
          have h6 := HZ.out.kept ((Kept.refl _).alloc (.cells #[.int .i64 (getF n L' (z2 j)).ty, .int .i64 (getF n L' (z2 j)).ct, .int .i64 (getF n L' (z2 j)).fr, .int .i64 (getF n L' (z2 j)).wa] 45))
          have H6 := Lib.hid h6
          obtain ⟨B6, hB6⟩ : ∃ B, B = w5.heap.size := ⟨_, rfl⟩
          obtain ⟨W6, hW6⟩ : ∃ W, W = w5.alloc (.cells #[.int .i64 (getF n L' (z2 j)).ty, .int .i64 (getF n L' (z2 j)).ct, .int .i64 (getF n L' (z2 j)).fr, .int .i64 (getF n L' (z2 j)).wa] 45) := ⟨_, rfl⟩
          rw [← hW6, ← hB6] at HYC
          rw [← hW6] at H6 h6
          rw [← hW6, ← hB6]
          clear hW6 hB6 HZ
          have hk6 : Kept W6 W6 := Kept.refl _
          have hSY : ∀ w', Kept W6 w' → (w'.cell? ⟨b2, o2 + j, none⟩ = some (.int .i64 (z2 j)) ∧ w'.cell? ⟨B6, 0, none⟩ = some (.int .i64 (getF n L' (z2 j)).ty) ∧ w'.cell? ⟨B6, 1, none⟩ = some (.int .i64 (getF n L' (z2 j)).ct) ∧ w'.cell? ⟨B6, 2, none⟩ = some (.int .i64 (getF n L' (z2 j)).fr) ∧ w'.cell? ⟨B6, 3, none⟩ = some (.int .i64 (getF n L' (z2 j)).wa)) :=
            fun w' h => ⟨(HSB.out _ (H6.out.bel.trans h)).1, HYC.out w' h⟩
          have HSY := Lib.hid hSY
          clear hSY h6 HYC
          go_region_held3 (fun w' => w'.cell? ⟨b2, o2 + j, none⟩ = some (.int .i64 (z2 j)) ∧ w'.cell? ⟨B6, 0, none⟩ = some (.int .i64 (getF n L' (z2 j)).ty) ∧ w'.cell? ⟨B6, 1, none⟩ = some (.int .i64 (getF n L' (z2 j)).ct) ∧ w'.cell? ⟨B6, 2, none⟩ = some (.int .i64 (getF n L' (z2 j)).fr) ∧ w'.cell? ⟨B6, 3, none⟩ = some (.int .i64 (getF n L' (z2 j)).wa))
            (first | exact HSY.out _ hbw10 | exact HSY.out _ hbw10.drew | exact HSY.out _ hbw9 | exact HSY.out _ hbw9.drew | exact HSY.out _ hbw8 | exact HSY.out _ hbw8.drew | exact HSY.out _ hbw7 | exact HSY.out _ hbw7.drew | exact HSY.out _ hk6 | exact HSY.out _ hk6.drew)
            (first
             | (go_at_call 11; refine (type_c _ w.heap.size sb n cap L' _ ?_).mono ?_; (first | exact (H6.out.kept hk6).t | exact (H6.out.kept (hk6).drew).t); rintro e w7 ⟨rfl, hkw7⟩; have hbw7 : Kept W6 w7 := (by first | exact Kept.trans hk6 hkw7 | exact Kept.trans (hk6).drew hkw7); clear hkw7)
             | (go_at_call 12; refine (count_c _ w.heap.size sb n cap L' _ ?_).mono ?_; (first | exact (H6.out.kept hbw7).t | exact (H6.out.kept (hbw7).drew).t); rintro e w8 ⟨rfl, hkw8⟩; have hbw8 : Kept W6 w8 := (by first | exact Kept.trans hbw7 hkw8 | exact Kept.trans (hbw7).drew hkw8); clear hkw8)
             | (go_at_call 13; refine (freed_c _ w.heap.size sb n cap L' _ ?_).mono ?_; (first | exact (H6.out.kept hbw8).t | exact (H6.out.kept (hbw8).drew).t); rintro e w9 ⟨rfl, hkw9⟩; have hbw9 : Kept W6 w9 := (by first | exact Kept.trans hbw8 hkw9 | exact Kept.trans (hbw8).drew hkw9); clear hkw9)
             | (go_at_call 14; refine (was_c _ w.heap.size sb n cap L' _ ?_).mono ?_; (first | exact (H6.out.kept hbw9).t | exact (H6.out.kept (hbw9).drew).t); rintro e w10 ⟨rfl, hkw10⟩; have hbw10 : Kept W6 w10 := (by first | exact Kept.trans hbw9 hkw10 | exact Kept.trans (hbw9).drew hkw10); clear hkw10))
          have H7 := Lib.hid (H6.out.kept hbw10)
          clear H6 HSY
          go_wp2_with fail
          go_roundw
          case rel => first | exact ⟨j + 1, _, by omega, by go_num, H7⟩ | ((repeat apply Exists.intro); exact ⟨⟨j + 1, _, by omega, by go_num, H7⟩, rfl⟩)
          case measure => simp [intOf]; omega
      · clear R1 R2 R3 R4
        by_cases q0 : j < l1 <;> by_cases q1 : j < l2 <;> by_cases q2 : j < l3 <;> by_cases q3 : j < l4 <;> by_cases q4 : j < 200
        all_goals
          first
          | (exfalso; omega)
          | (clear hlt
             go_wp2_with fail
             refine (awake_c _).mono ?_
             rintro e w7 ⟨rfl, hk7⟩
             have hb7 := Lib.hid (hs.out.kept hk7).bel
             clear hk7
             go_wp2_with fail
             go_ret
             exact ⟨rfl, hb7.out⟩)
end Go.Proofs.Ytcmflbjaloandaa.C

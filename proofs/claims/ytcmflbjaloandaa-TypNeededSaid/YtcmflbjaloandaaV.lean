/- The walk of TypNeeded: a frame that is needed stays what it is. -/
import Derived.Test.YtcmflbjaloandaaU
import Derived.Test.YtcmflbjaloandaaN
import Derived.Deep.RegionHeld3
import Derived.Deep.RegionLaw
import Derived.Deep.CutBlock
import Derived.IntWalk
namespace Go.Proofs.Ytcmflbjaloandaa.C
open Go.RowKit

structure Inv (j : Nat) (x : Fm) : Prop where
  z : x.ty = 0 → x.ct = 0
  lo : 0 ≤ x.ct
  hi : x.ct ≤ j
/-- What an act leaves of a frame. -/
structure Stays (j : Nat) (x y : Fm) : Prop where
  inv : Inv (j + 1) y
  fr : x.fr ≤ y.fr
  ty : 0 < x.ct → y.ty = x.ty
theorem Inv.stay {j : Nat} {x : Fm} (h : Inv j x) : Stays j x x := ⟨⟨h.z, h.lo, by have := h.hi; omega⟩, Int.le_refl _, fun _ => rfl⟩
theorem Inv.rt {j : Nat} {x : Fm} (h : Inv j x) (tn : Int) (q : Bool) (ht : tn ≠ 0) : Stays j x (rtX x tn q) := by
  unfold rtX
  split
  · rename_i e
    have hz : x.ty = 0 := by
      unfold rtOk at e
      by_cases hz : x.ty = 0
      · exact hz
      · rw [if_pos hz] at e; split at e <;> simp at e
    have hc := h.z hz
    exact ⟨⟨fun hh => absurd hh ht, h.lo, by have := h.hi; simp only []; omega⟩, Int.le_refl _, fun hh => by omega⟩
  · exact h.stay
theorem Inv.ut {j : Nat} {x : Fm} (h : Inv j x) (now : Int) (p : Bool) : Stays j x (utX x now p) := by
  unfold utX
  split
  · rename_i e
    have hc : x.ct = 0 := by
      unfold utOk at e
      split at e
      · simp at e
      · split at e
        · simp at e
        · omega
    refine ⟨⟨fun _ => hc, h.lo, ?_⟩, ?_, fun hh => by omega⟩
    · simp only []; omega
    · simp only []; omega
  · exact h.stay
theorem Inv.rf {j : Nat} {x : Fm} (h : Inv j x) : Stays j x (rfX x) := by
  unfold rfX
  have hi := h.hi
  have lo := h.lo
  split
  · rename_i e
    have hz : x.ty ≠ 0 := by
      unfold rfOk at e
      intro hz; rw [if_pos hz] at e; simp at e
    refine ⟨⟨fun hh => absurd hh hz, ?_, ?_⟩, Int.le_refl _, fun _ => rfl⟩
    · simp only []; omega
    · simp only []; omega
  · exact h.stay
theorem Inv.ur {j : Nat} {x : Fm} (h : Inv j x) (now : Int) : Stays j x (urX x now) := by
  unfold urX
  have hi := h.hi
  have lo := h.lo
  split
  · rename_i e
    have hc : x.ct ≠ 0 := by
      unfold urOk at e
      intro hz; rw [if_pos hz] at e; simp at e
    refine ⟨⟨fun hh => ?_, ?_, ?_⟩, ?_, fun _ => rfl⟩
    · have := h.z hh; omega
    · simp only []; omega
    · simp only []; omega
    · simp only []; split <;> omega
  · exact h.stay

set_option maxRecDepth 100000 in
set_option maxHeartbeats 4000000 in
theorem Needed_w (a1 a2 : Option Addr) (l1 l2 c1 c2 : Nat) (z1 z2 : Nat → Int) (w : World) (s1 : RowI .u8 w a1 l1 z1) (s2 : RowI .u8 w a2 l2 z2) :
    Calls Try.prog 4 #[.slice a1 l1 c1, .slice a2 l2 c2] w fun e w' => e = .returned (.bool true) ∧ Kept w w' := by
  obtain ⟨m1, r1⟩ := s1
  obtain ⟨m2, r2⟩ := s2
  unfold maxLen at m1 m2
  have R1 := Lib.hid r1
  have R2 := Lib.hid r2
  clear r1 r2
  go_enter Try.func4, Try.ntmps4
  go_wp2_with fail
  refine (new1 _).mono ?_
  rintro e w1 ⟨sb, cap, rfl, hT, hsb, hk⟩
  have hs0 : Hid (At w w.heap.size sb cap fresh w1) := ⟨hT, hk, hsb⟩
  clear hT hk hsb
  go_wp2_with fail
  go_loopw [7] (fun i wr => ∃ (j : Nat) (x : Fm), j ≤ 200 ∧ i = .int .i64 j ∧ Hid (At w w.heap.size sb cap x wr) ∧ Hid (Inv j x)) (fun i _ => 200 - (intOf i).toNat)
  case atStart => exact ⟨0, _, by omega, rfl, hs0, Lib.hid ⟨fun _ => rfl, by simp [fresh], by simp [fresh]⟩⟩
  case round =>
    obtain ⟨j, x, hj, rfl, hs, hI⟩ := hrel
    clear hs0
    by_cases hlt : j < l1 ∧ j < l2 ∧ j < 200
    · obtain ⟨q1, q2, q5⟩ := hlt
      obtain ⟨b1, o1, rfl, hc1⟩ := R1.out (by omega)
      obtain ⟨b2, o2, rfl, hc2⟩ := R2.out (by omega)
      have hSB : ∀ w', Kept w w' → (w'.cell? ⟨b1, o1 + j, none⟩ = some (.int .u8 (z1 j)) ∧ w'.cell? ⟨b2, o2 + j, none⟩ = some (.int .u8 (z2 j))) :=
        fun w' hb => ⟨Below.old hb (hc1 j q1).1, Below.old hb (hc2 j q2).1⟩
      have HSB := Lib.hid hSB
      obtain ⟨u1, u2⟩ := bd_u8 (hc1 j q1).2
      obtain ⟨v1, v2⟩ := bd_u8 (hc2 j q2).2
      have i0 : (0 : Int) ≤ j := by omega
      have i1 : (j : Int) < l1 := by omega
      have i2 : (j : Int) < l2 := by omega
      clear hc1 hc2 hSB R1 R2
      have hk4 : z1 j % 4 = 0 ∨ z1 j % 4 = 1 ∨ z1 j % 4 = 2 ∨ z1 j % 4 = 3 := by omega
      generalize z1 j = u at HSB u1 u2 hk4
      generalize z2 j = v at HSB v1 v2
      go_wp2_with fail
      refine (type1 hs.out.1).mono ?_
      rintro e w3 ⟨rfl, hk3⟩
      have hs := Lib.hid (hs.out.kept hk3)
      clear hk3
      go_wp2_with fail
      refine (count1 hs.out.1).mono ?_
      rintro e w4 ⟨rfl, hk3⟩
      have hs := Lib.hid (hs.out.kept hk3)
      clear hk3
      go_wp2_with fail
      refine (freed1 hs.out.1).mono ?_
      rintro e w5 ⟨rfl, hk3⟩
      have hs := Lib.hid (hs.out.kept hk3)
      clear hk3
      have g1 := (HSB.out _ hs.out.2.1).1
      have g2 := (HSB.out _ hs.out.2.1).2
      have hb2 := hs.out.2.1
      go_upto_block 2 with fail
      go_cut [] from 21 to 138 (fun wx => ∃ y : Fm, Hid (At w w.heap.size sb cap y wx) ∧ Hid (Stays j x y))
      case first =>
        rcases hk4 with hm | hm | hm | hm
        · have HI' := Lib.hid (hI.out.rt (1 + v % 2) (decide (0 < v % 3)) (by omega))
          have e2 : Hid (IntKind.i64.wrap (1 + IntKind.i64.wrap (v.tmod 2)) = 1 + v % 2) := by
            rw [IntWalk.rem_in _ _ v1, IntWalk.i64_in (v % 2) (by omega), IntWalk.i64_in _ (by omega)]; exact rfl
          have e4 := IntWalk.rem_in v 3 v1
          by_cases q3 : v % 3 = 0
          · have hq3 : decide (0 < v % 3) = false := decide_eq_false (by omega)
            rw [hq3] at HI'
            have e3 : Hid (decide (0 < v.tmod 3) = false) := by rw [e4]; exact hq3
            have b5 : (v.tmod 3 == 0) = true := by rw [e4]; simp; omega
            clear e4
            by_cases ty0 : x.ty = 0
            · have E0 : Hid (rtOk x (1 + v % 2) false = 6) := by unfold rtOk; rw [if_neg (by omega), if_neg (by omega)]; rfl
              have HS := Lib.hid hI.out.stay
              have hQ : ∀ k, Calls Try.prog 7 #[.pointer (some ⟨w.heap.size, 0, none⟩), .int .i64 0, .int .i64 (1 + v % 2), .bool false] (w5.drewN k) fun e w' => e = .returned (.int .i64 6) ∧ w' = w5.drewN k := by
                intro k
                refine (retype1_no ((hs.out.kept ((Kept.refl _).drewN k)).1) _ _ (by rw [E0.out]; decide)).mono ?_
                rw [E0.out]
                rintro e w' ⟨rfl, rfl⟩
                exact ⟨rfl, rfl⟩
              have HQ := Lib.hid hQ
              clear ty0 hq3 hQ
              go_wp2_with fail
              refine wp_region_quiet_lit (by kernel_rfl) (by kernel_rfl) ?_
              repeat
                (refine no_implicit_lambda% (wpQuiet_step ?_)
                 intro K hK
                 go_simp
                 first
                 | (refine hK _ ?_; clear hK K)
                 | (apply Exists.intro
                    refine ⟨fun _ => ?_, hK _ ?_⟩
                    (rw [e2.out, e3.out]; refine Calls.quiet_of_same (HQ.out _))
                    clear hK K))
              refine no_implicit_lambda% (wpQuiet_nil ?_)
              intro _ hw'
              obtain ⟨nq, hw''⟩ := hw'
              subst hw''
              go_wp2_with fail
              go_meet
              case rel => exact ⟨_, Lib.hid (hs.out.kept (by repeat (first | exact Kept.refl _ | apply Kept.drewN | apply Kept.drew))), HS⟩

            · have E0 : Hid (rtOk x (1 + v % 2) false = 4) := by unfold rtOk; rw [if_neg (by omega), if_pos ty0]; exact rfl
              have HS := Lib.hid hI.out.stay
              have hQ : ∀ k, Calls Try.prog 7 #[.pointer (some ⟨w.heap.size, 0, none⟩), .int .i64 0, .int .i64 (1 + v % 2), .bool false] (w5.drewN k) fun e w' => e = .returned (.int .i64 4) ∧ w' = w5.drewN k := by
                intro k
                refine (retype1_no ((hs.out.kept ((Kept.refl _).drewN k)).1) _ _ (by rw [E0.out]; decide)).mono ?_
                rw [E0.out]
                rintro e w' ⟨rfl, rfl⟩
                exact ⟨rfl, rfl⟩
              have HQ := Lib.hid hQ
              clear ty0 hq3 hQ
              go_wp2_with fail
              refine wp_region_quiet_lit (by kernel_rfl) (by kernel_rfl) ?_
              repeat
                (refine no_implicit_lambda% (wpQuiet_step ?_)
                 intro K hK
                 go_simp
                 first
                 | (refine hK _ ?_; clear hK K)
                 | (apply Exists.intro
                    refine ⟨fun _ => ?_, hK _ ?_⟩
                    (rw [e2.out, e3.out]; refine Calls.quiet_of_same (HQ.out _))
                    clear hK K))
              refine no_implicit_lambda% (wpQuiet_nil ?_)
              intro _ hw'
              obtain ⟨nq, hw''⟩ := hw'
              subst hw''
              go_wp2_with fail
              go_meet
              case rel => exact ⟨_, Lib.hid (hs.out.kept (by repeat (first | exact Kept.refl _ | apply Kept.drewN | apply Kept.drew))), HS⟩

          · have hq3 : decide (0 < v % 3) = true := decide_eq_true (by omega)
            rw [hq3] at HI'
            have e3 : Hid (decide (0 < v.tmod 3) = true) := by rw [e4]; exact hq3
            have b5 : (v.tmod 3 == 0) = false := by rw [e4]; simp; omega
            clear e4
            by_cases ty0 : x.ty = 0
            · have E0 : Hid (rtOk x (1 + v % 2) true = 0) := by unfold rtOk; rw [if_neg (by omega), if_neg (by omega)]; rfl
              have b1 : (x.ty != 0) = false := by simp; exact ty0
              have q4 : 0 < v % 3 := by omega
              clear ty0 hq3
              go_wp2_with fail
              go_region_held3 (fun w' => w'.cell? ⟨b2, o2 + j, none⟩ = some (.int .u8 v))
                (first | exact (HSB.out _ hb3).2 | exact (HSB.out _ hb2.drew).2 | exact (HSB.out _ hb2).2)
                (first | (go_at_call 7; refine (retype1 (x := x) (sb := sb) (cap := cap) (tb := w.heap.size) ?_ _ _).mono ?_; (first | exact hs.out.1 | exact (hs.out.kept ((Kept.refl _).drew)).1); rw [e2.out, e3.out, E0.out]; rintro e w3 ⟨rfl, hT3, hg3⟩; have hx := (hs.out.kept ((Kept.refl _).drew)).on hT3 hg3; have hb3 := hx.2.1; have HY := Lib.hid hx; clear hx hT3 hg3))

              go_wp2_with fail
              go_meet
              case rel => exact ⟨_, HY, HI'⟩
            · have E0 : Hid (rtOk x (1 + v % 2) true = 4) := by unfold rtOk; rw [if_neg (by omega), if_pos ty0]; exact rfl
              have q4 : 0 < v % 3 := by omega
              have HS := Lib.hid hI.out.stay
              have hQ : ∀ k, Calls Try.prog 7 #[.pointer (some ⟨w.heap.size, 0, none⟩), .int .i64 0, .int .i64 (1 + v % 2), .bool true] (w5.drewN k) fun e w' => e = .returned (.int .i64 4) ∧ w' = w5.drewN k := by
                intro k
                refine (retype1_no ((hs.out.kept ((Kept.refl _).drewN k)).1) _ _ (by rw [E0.out]; decide)).mono ?_
                rw [E0.out]
                rintro e w' ⟨rfl, rfl⟩
                exact ⟨rfl, rfl⟩
              have HQ := Lib.hid hQ
              clear ty0 hq3 hQ
              go_wp2_with fail
              refine wp_region_quiet_lit (by kernel_rfl) (by kernel_rfl) ?_
              repeat
                (refine no_implicit_lambda% (wpQuiet_step ?_)
                 intro K hK
                 go_simp
                 first
                 | (refine hK _ ?_; clear hK K)
                 | (apply Exists.intro
                    refine ⟨fun _ => ?_, hK _ ?_⟩
                    (rw [e2.out, e3.out]; refine Calls.quiet_of_same (HQ.out _))
                    clear hK K))
              refine no_implicit_lambda% (wpQuiet_nil ?_)
              intro _ hw'
              obtain ⟨nq, hw''⟩ := hw'
              subst hw''
              go_wp2_with fail
              go_meet
              case rel => exact ⟨_, Lib.hid (hs.out.kept (by repeat (first | exact Kept.refl _ | apply Kept.drewN | apply Kept.drew))), HS⟩

        · by_cases ty0 : x.ty = 0
          · have E0 : Hid (utOk x = 4) := by unfold utOk; rw [if_pos ty0]; exact rfl
            clear ty0
            go_wp2_with fail
            refine (untype1 hs.out.1 _ false).mono ?_
            rw [E0.out]
            rintro e w3 ⟨rfl, hT3, hg3⟩
            have HY := Lib.hid (hs.out.on hT3 hg3)
            clear hT3 hg3
            go_wp2_with fail
            go_meet
            case rel => exact ⟨_, HY, Lib.hid (hI.out.ut _ _)⟩

          · have b1 : (x.ty == 0) = false := by simp; exact ty0
            by_cases ct0 : x.ct = 0
            · have E0 : Hid (utOk x = 0) := by unfold utOk; rw [if_neg ty0, if_neg (by omega)]; exact rfl
              have b2 : (x.ct != 0) = false := by simp; exact ct0
              clear ty0 ct0
              go_wp2_with fail
              refine (untype1 hs.out.1 _ false).mono ?_
              rw [E0.out]
              rintro e w3 ⟨rfl, hT3, hg3⟩
              have HY := Lib.hid (hs.out.on hT3 hg3)
              clear hT3 hg3
              go_wp2_with fail
              go_meet
              case rel => exact ⟨_, HY, Lib.hid (hI.out.ut _ _)⟩

            · have E0 : Hid (utOk x = 10) := by unfold utOk; rw [if_neg ty0, if_pos ct0]; exact rfl
              clear ty0 ct0
              go_wp2_with fail
              refine (untype1 hs.out.1 _ false).mono ?_
              rw [E0.out]
              rintro e w3 ⟨rfl, hT3, hg3⟩
              have HY := Lib.hid (hs.out.on hT3 hg3)
              clear hT3 hg3
              go_wp2_with fail
              go_meet
              case rel => exact ⟨_, HY, Lib.hid (hI.out.ut _ _)⟩

        · by_cases ty0 : x.ty = 0
          · have E0 : Hid (rfOk x = 4) := by unfold rfOk; rw [if_pos ty0]; exact rfl
            have b1 : (x.ty != 0) = false := by simp; exact ty0
            clear ty0
            go_wp2_with fail
            refine (ref1 hs.out.1).mono ?_
            rw [E0.out]
            rintro e w3 ⟨rfl, hT3, hg3⟩
            have HY := Lib.hid (hs.out.on hT3 hg3)
            clear hT3 hg3
            go_wp2_with fail
            go_meet
            case rel => exact ⟨_, HY, Lib.hid (hI.out.rf)⟩

          · have E0 : Hid (rfOk x = 0) := by unfold rfOk; rw [if_neg ty0, if_neg (by have := hI.out.hi; omega)]; exact rfl
            have b1 : (x.ty != 0) = true := by simp; exact ty0
            clear ty0
            go_wp2_with fail
            refine (ref1 hs.out.1).mono ?_
            rw [E0.out]
            rintro e w3 ⟨rfl, hT3, hg3⟩
            have HY := Lib.hid (hs.out.on hT3 hg3)
            clear hT3 hg3
            go_wp2_with fail
            go_meet
            case rel => exact ⟨_, HY, Lib.hid (hI.out.rf)⟩

        · by_cases ct0 : x.ct = 0
          · have E0 : Hid (urOk x = 3) := by unfold urOk; rw [if_pos ct0]; exact rfl
            have ct1 : x.ct ≤ 0 := by omega
            clear ct0
            go_wp2_with fail
            refine (unref1 hs.out.1 _).mono ?_
            rw [E0.out]
            rintro e w3 ⟨rfl, hT3, hg3⟩
            have HY := Lib.hid (hs.out.on hT3 hg3)
            clear hT3 hg3
            go_wp2_with fail
            go_meet
            case rel => exact ⟨_, HY, Lib.hid (hI.out.ur _)⟩

          · have E0 : Hid (urOk x = 0) := by unfold urOk; rw [if_neg ct0]; exact rfl
            have ct1 : 0 < x.ct := by have := hI.out.lo; omega
            clear ct0
            go_wp2_with fail
            refine (unref1 hs.out.1 _).mono ?_
            rw [E0.out]
            rintro e w3 ⟨rfl, hT3, hg3⟩
            have HY := Lib.hid (hs.out.on hT3 hg3)
            clear hT3 hg3
            go_wp2_with fail
            go_meet
            case rel => exact ⟨_, HY, Lib.hid (hI.out.ur _)⟩

      case rest =>
        obtain ⟨y, HY, HS⟩ := hcut
        have hfr := HS.out.fr
        clear hk4 g1 g2
        by_cases t0 : y.ty = 0
        · have hc := Lib.hid (HS.out.inv.z t0)
          have t0 := Lib.hid t0
          by_cases c0 : 0 < x.ct
          · have ee := Lib.hid (HS.out.ty c0)
            go_wp2_with fail
            refine (type1 HY.out.1).mono ?_
            rw [t0.out]
            rintro e w6 ⟨rfl, hk6⟩
            have HY := Lib.hid (HY.out.kept hk6)
            clear hk6
            go_wp2_with fail
            refine (count1 HY.out.1).mono ?_
            rw [hc.out]
            rintro e w7 ⟨rfl, hk6⟩
            have HY := Lib.hid (HY.out.kept hk6)
            clear hk6
            go_wp2_with fail
            refine (freed1 HY.out.1).mono ?_
            rintro e w8 ⟨rfl, hk6⟩
            have HY := Lib.hid (HY.out.kept hk6)
            clear hk6
            go_wp2_with fail
            refine (type1 HY.out.1).mono ?_
            rw [ee.out]
            rintro e w9 ⟨rfl, hk6⟩
            have HY := Lib.hid (HY.out.kept hk6)
            clear hk6
            go_wp2_with fail
            go_roundw
            case rel => first | exact ⟨j + 1, _, by omega, by go_num, HY, Lib.hid HS.out.inv⟩ | ((repeat apply Exists.intro); exact ⟨⟨j + 1, _, by omega, by go_num, HY, Lib.hid HS.out.inv⟩, rfl⟩)
            case measure => simp [intOf]; omega

          · have c1 : x.ct ≤ 0 := by omega
            go_wp2_with fail
            refine (type1 HY.out.1).mono ?_
            rw [t0.out]
            rintro e w6 ⟨rfl, hk6⟩
            have HY := Lib.hid (HY.out.kept hk6)
            clear hk6
            go_wp2_with fail
            refine (count1 HY.out.1).mono ?_
            rw [hc.out]
            rintro e w7 ⟨rfl, hk6⟩
            have HY := Lib.hid (HY.out.kept hk6)
            clear hk6
            go_wp2_with fail
            refine (freed1 HY.out.1).mono ?_
            rintro e w8 ⟨rfl, hk6⟩
            have HY := Lib.hid (HY.out.kept hk6)
            clear hk6
            go_wp2_with fail
            go_roundw
            case rel => first | exact ⟨j + 1, _, by omega, by go_num, HY, Lib.hid HS.out.inv⟩ | ((repeat apply Exists.intro); exact ⟨⟨j + 1, _, by omega, by go_num, HY, Lib.hid HS.out.inv⟩, rfl⟩)
            case measure => simp [intOf]; omega

        · have b1 : (y.ty == 0) = false := by simp; exact t0
          have t0 := Lib.hid t0
          by_cases c0 : 0 < x.ct
          · have ee := Lib.hid (HS.out.ty c0)
            go_wp2_with fail
            refine (type1 HY.out.1).mono ?_
            rintro e w6 ⟨rfl, hk6⟩
            have HY := Lib.hid (HY.out.kept hk6)
            clear hk6
            go_wp2_with fail
            refine (freed1 HY.out.1).mono ?_
            rintro e w8 ⟨rfl, hk6⟩
            have HY := Lib.hid (HY.out.kept hk6)
            clear hk6
            go_wp2_with fail
            refine (type1 HY.out.1).mono ?_
            rw [ee.out]
            rintro e w9 ⟨rfl, hk6⟩
            have HY := Lib.hid (HY.out.kept hk6)
            clear hk6
            go_wp2_with fail
            go_roundw
            case rel => first | exact ⟨j + 1, _, by omega, by go_num, HY, Lib.hid HS.out.inv⟩ | ((repeat apply Exists.intro); exact ⟨⟨j + 1, _, by omega, by go_num, HY, Lib.hid HS.out.inv⟩, rfl⟩)
            case measure => simp [intOf]; omega

          · have c1 : x.ct ≤ 0 := by omega
            go_wp2_with fail
            refine (type1 HY.out.1).mono ?_
            rintro e w6 ⟨rfl, hk6⟩
            have HY := Lib.hid (HY.out.kept hk6)
            clear hk6
            go_wp2_with fail
            refine (freed1 HY.out.1).mono ?_
            rintro e w8 ⟨rfl, hk6⟩
            have HY := Lib.hid (HY.out.kept hk6)
            clear hk6
            go_wp2_with fail
            go_roundw
            case rel => first | exact ⟨j + 1, _, by omega, by go_num, HY, Lib.hid HS.out.inv⟩ | ((repeat apply Exists.intro); exact ⟨⟨j + 1, _, by omega, by go_num, HY, Lib.hid HS.out.inv⟩, rfl⟩)
            case measure => simp [intOf]; omega


    · clear R1 R2
      by_cases q0 : j < l1 <;> by_cases q1 : j < l2 <;> by_cases q4 : j < 200
      all_goals
        first
        | (exfalso; omega)
        | (clear hlt
           go_wp2_with fail
           refine (awake_c _).mono ?_
           rintro e w7 ⟨rfl, hk7⟩
           have hb7 := Lib.hid (hs.out.kept hk7)
           clear hk7
           go_wp2_with fail
           go_ret
           exact ⟨rfl, hb7.out.2.1⟩)
end Go.Proofs.Ytcmflbjaloandaa.C

/- SnapDiff's walk where two snaps cannot be held against each other. -/
import Derived.Test.YtcjadneamacilaaN
import Derived.Deep.RegionLaw
import Derived.Deep.CutBlock
namespace Go.Proofs.Ytcjadneamacilaa.C
open Go.RowKit Go.Shelf

set_option maxRecDepth 100000 in
set_option maxHeartbeats 8000000 in
theorem Diff_bad (p q : Pl) (s t : Sn) (w : World) (hp : Snp w p s) (hq : Snp w q t) (h1 : smallP s) (h0 : ¬ pairE s t = 0) :
    Calls Try.prog 4 #[.agg #[Value.int .i64 s.fr, .int .i64 s.up, .slice p.aw s.nw p.cw, .slice p.at' s.nt p.ct, .slice p.ac s.nc p.cc], .agg #[Value.int .i64 t.fr, .int .i64 t.up, .slice q.aw t.nw q.cw, .slice q.at' t.nt q.ct, .slice q.ac t.nc q.cc]] w fun e w' => e = .returned (.bool true) ∧ Kept w w' := by
  have K2 : Hid (Kept w ((w.alloc (.cells #[Value.int .i64 s.fr, .int .i64 s.up, .slice p.aw s.nw p.cw, .slice p.at' s.nt p.ct, .slice p.ac s.nc p.cc] 56)).alloc (.cells #[Value.int .i64 t.fr, .int .i64 t.up, .slice q.aw t.nw q.cw, .slice q.at' t.nt q.ct, .slice q.ac t.nc q.cc] 56))) := ((Kept.refl w).alloc _).alloc _
  have HT := Lib.hid (two_new w p q s t)
  have hsm1 := small_c ((w.alloc (.cells #[Value.int .i64 s.fr, .int .i64 s.up, .slice p.aw s.nw p.cw, .slice p.at' s.nt p.ct, .slice p.ac s.nc p.cc] 56)).alloc (.cells #[Value.int .i64 t.fr, .int .i64 t.up, .slice q.aw t.nw q.cw, .slice q.at' t.nt q.ct, .slice q.ac t.nc q.cc] 56)) p s (hp.kept K2.out)
  rw [decide_eq_true h1] at hsm1
  have HS1 := Lib.hid hsm1
  clear hsm1 h1
  have HA := Lib.hid hp
  have HB := Lib.hid hq
  clear hp hq
  have bE : (pairE s t != 0) = true := by simp [h0]
  have HL : Hid (diffL s t = []) := if_neg h0
  go_enter Try.func4, Try.ntmps4
  go_wp2_with fail
  refine HS1.out.mono ?_
  rintro e w1 ⟨rfl, hk1⟩
  have K3 := Lib.hid hk1
  clear hk1
  generalize ((w.alloc (.cells #[Value.int .i64 s.fr, .int .i64 s.up, .slice p.aw s.nw p.cw, .slice p.at' s.nt p.ct, .slice p.ac s.nc p.cc] 56)).alloc (.cells #[Value.int .i64 t.fr, .int .i64 t.up, .slice q.aw t.nw q.cw, .slice q.at' t.nt q.ct, .slice q.ac t.nc q.cc] 56)) = W2 at K2 HT HS1 K3
  have a0 := ((HT.out.kept K3.out)).a0
  have a1 := ((HT.out.kept K3.out)).a1
  have a2 := ((HT.out.kept K3.out)).a2
  have a3 := ((HT.out.kept K3.out)).a3
  have a4 := ((HT.out.kept K3.out)).a4
  have c0 := ((HT.out.kept K3.out)).c0
  have c1 := ((HT.out.kept K3.out)).c1
  have c2 := ((HT.out.kept K3.out)).c2
  have c3 := ((HT.out.kept K3.out)).c3
  have c4 := ((HT.out.kept K3.out)).c4
  go_wp2_with fail
  refine (small_c _ _ t (HB.out.kept (K2.out.trans K3.out))).mono ?_
  by_cases h2 : smallP t
  · rw [decide_eq_true h2]
    rintro e w4 ⟨rfl, hk⟩
    have K4 := Lib.hid (K3.out.trans hk)
    clear hk h2
    clear a0 a1 a2 a3 a4 c0 c1 c2 c3 c4
    have a0 := ((HT.out.kept K4.out)).a0
    have a1 := ((HT.out.kept K4.out)).a1
    have a2 := ((HT.out.kept K4.out)).a2
    have a3 := ((HT.out.kept K4.out)).a3
    have a4 := ((HT.out.kept K4.out)).a4
    have c0 := ((HT.out.kept K4.out)).c0
    have c1 := ((HT.out.kept K4.out)).c1
    have c2 := ((HT.out.kept K4.out)).c2
    have c3 := ((HT.out.kept K4.out)).c3
    have c4 := ((HT.out.kept K4.out)).c4
    go_wp2_with fail
    refine (diff_c _ _ _ s t (HA.out.kept (K2.out.trans K4.out)) (HB.out.kept (K2.out.trans K4.out))).mono ?_
    generalize hpe : pairE s t = pe at bE
    have HPE := Lib.hid hpe
    clear hpe
    rw [HL.out]
    rintro e w5 ⟨v, rfl, ⟨a5, n5, rfl, -⟩, hk⟩
    have K5 := Lib.hid (K4.out.trans hk)
    clear hk
    clear a0 a1 a2 a3 a4 c0 c1 c2 c3 c4
    have a0 := ((HT.out.kept K5.out)).a0
    have a1 := ((HT.out.kept K5.out)).a1
    have a2 := ((HT.out.kept K5.out)).a2
    have a3 := ((HT.out.kept K5.out)).a3
    have a4 := ((HT.out.kept K5.out)).a4
    have c0 := ((HT.out.kept K5.out)).c0
    have c1 := ((HT.out.kept K5.out)).c1
    have c2 := ((HT.out.kept K5.out)).c2
    have c3 := ((HT.out.kept K5.out)).c3
    have c4 := ((HT.out.kept K5.out)).c4
    go_wp2_with fail
    by_cases g1 : Right s
    · by_cases g2 : Right t
      · by_cases g3 : s.fr = t.fr
        · have g4 : s.up ≠ t.up := by
            intro g4
            apply h0
            unfold pairE
            rw [if_neg (fun hh => hh.elim (fun x => x g1) (fun x => x g2)), if_neg (by omega)]
          have e3 : (s.fr != t.fr) = false := by simp [g3]
          have e4 : (s.up != t.up) = true := by simp [g4]
          clear g3 g4 h0
          go_wp2_with fail
          refine (right_c _ _ s (HA.out.kept (K2.out.trans K5.out))).mono ?_
          rw [decide_eq_true g1]
          rintro e w6 ⟨rfl, hk⟩
          have K6 := Lib.hid (K5.out.trans hk)
          clear hk
          clear a0 a1 a2 a3 a4 c0 c1 c2 c3 c4
          have a0 := ((HT.out.kept K6.out)).a0
          have a1 := ((HT.out.kept K6.out)).a1
          have a2 := ((HT.out.kept K6.out)).a2
          have a3 := ((HT.out.kept K6.out)).a3
          have a4 := ((HT.out.kept K6.out)).a4
          have c0 := ((HT.out.kept K6.out)).c0
          have c1 := ((HT.out.kept K6.out)).c1
          have c2 := ((HT.out.kept K6.out)).c2
          have c3 := ((HT.out.kept K6.out)).c3
          have c4 := ((HT.out.kept K6.out)).c4
          go_wp2_with fail
          refine (right_c _ _ t (HB.out.kept (K2.out.trans K6.out))).mono ?_
          rw [decide_eq_true g2]
          rintro e w7 ⟨rfl, hk⟩
          have K7 := Lib.hid (K6.out.trans hk)
          clear hk
          clear a0 a1 a2 a3 a4 c0 c1 c2 c3 c4
          have a0 := ((HT.out.kept K7.out)).a0
          have a1 := ((HT.out.kept K7.out)).a1
          have a2 := ((HT.out.kept K7.out)).a2
          have a3 := ((HT.out.kept K7.out)).a3
          have a4 := ((HT.out.kept K7.out)).a4
          have c0 := ((HT.out.kept K7.out)).c0
          have c1 := ((HT.out.kept K7.out)).c1
          have c2 := ((HT.out.kept K7.out)).c2
          have c3 := ((HT.out.kept K7.out)).c3
          have c4 := ((HT.out.kept K7.out)).c4
          clear g1 g2
          go_wp2_with (go_at_call 20; refine (awake_c _).mono ?_; rintro e w9 ⟨rfl, hk9⟩)
          go_ret
          exact ⟨rfl, K2.out.trans (K7.out.trans hk9)⟩
        · have e3 : (s.fr != t.fr) = true := by simp [g3]
          clear g3 h0
          go_wp2_with fail
          refine (right_c _ _ s (HA.out.kept (K2.out.trans K5.out))).mono ?_
          rw [decide_eq_true g1]
          rintro e w6 ⟨rfl, hk⟩
          have K6 := Lib.hid (K5.out.trans hk)
          clear hk
          clear a0 a1 a2 a3 a4 c0 c1 c2 c3 c4
          have a0 := ((HT.out.kept K6.out)).a0
          have a1 := ((HT.out.kept K6.out)).a1
          have a2 := ((HT.out.kept K6.out)).a2
          have a3 := ((HT.out.kept K6.out)).a3
          have a4 := ((HT.out.kept K6.out)).a4
          have c0 := ((HT.out.kept K6.out)).c0
          have c1 := ((HT.out.kept K6.out)).c1
          have c2 := ((HT.out.kept K6.out)).c2
          have c3 := ((HT.out.kept K6.out)).c3
          have c4 := ((HT.out.kept K6.out)).c4
          go_wp2_with fail
          refine (right_c _ _ t (HB.out.kept (K2.out.trans K6.out))).mono ?_
          rw [decide_eq_true g2]
          rintro e w7 ⟨rfl, hk⟩
          have K7 := Lib.hid (K6.out.trans hk)
          clear hk
          clear a0 a1 a2 a3 a4 c0 c1 c2 c3 c4
          have a0 := ((HT.out.kept K7.out)).a0
          have a1 := ((HT.out.kept K7.out)).a1
          have a2 := ((HT.out.kept K7.out)).a2
          have a3 := ((HT.out.kept K7.out)).a3
          have a4 := ((HT.out.kept K7.out)).a4
          have c0 := ((HT.out.kept K7.out)).c0
          have c1 := ((HT.out.kept K7.out)).c1
          have c2 := ((HT.out.kept K7.out)).c2
          have c3 := ((HT.out.kept K7.out)).c3
          have c4 := ((HT.out.kept K7.out)).c4
          clear g1 g2
          go_wp2_with (go_at_call 20; refine (awake_c _).mono ?_; rintro e w9 ⟨rfl, hk9⟩)
          go_ret
          exact ⟨rfl, K2.out.trans (K7.out.trans hk9)⟩
      · clear h0
        go_wp2_with fail
        refine (right_c _ _ s (HA.out.kept (K2.out.trans K5.out))).mono ?_
        rw [decide_eq_true g1]
        rintro e w6 ⟨rfl, hk⟩
        have K6 := Lib.hid (K5.out.trans hk)
        clear hk
        clear a0 a1 a2 a3 a4 c0 c1 c2 c3 c4
        have a0 := ((HT.out.kept K6.out)).a0
        have a1 := ((HT.out.kept K6.out)).a1
        have a2 := ((HT.out.kept K6.out)).a2
        have a3 := ((HT.out.kept K6.out)).a3
        have a4 := ((HT.out.kept K6.out)).a4
        have c0 := ((HT.out.kept K6.out)).c0
        have c1 := ((HT.out.kept K6.out)).c1
        have c2 := ((HT.out.kept K6.out)).c2
        have c3 := ((HT.out.kept K6.out)).c3
        have c4 := ((HT.out.kept K6.out)).c4
        go_wp2_with fail
        refine (right_c _ _ t (HB.out.kept (K2.out.trans K6.out))).mono ?_
        rw [decide_eq_false g2]
        rintro e w7 ⟨rfl, hk⟩
        have K7 := Lib.hid (K6.out.trans hk)
        clear hk
        clear g1 g2
        go_wp2_with (go_at_call 20; refine (awake_c _).mono ?_; rintro e w9 ⟨rfl, hk9⟩)
        go_ret
        exact ⟨rfl, K2.out.trans (K7.out.trans hk9)⟩
    · clear h0
      go_wp2_with fail
      refine (right_c _ _ s (HA.out.kept (K2.out.trans K5.out))).mono ?_
      rw [decide_eq_false g1]
      rintro e w6 ⟨rfl, hk⟩
      have K6 := Lib.hid (K5.out.trans hk)
      clear hk
      clear g1
      go_wp2_with (go_at_call 20; refine (awake_c _).mono ?_; rintro e w9 ⟨rfl, hk9⟩)
      go_ret
      exact ⟨rfl, K2.out.trans (K6.out.trans hk9)⟩

  · rw [decide_eq_false h2]
    rintro e w4 ⟨rfl, hk⟩
    have K4 := Lib.hid (K3.out.trans hk)
    clear hk h2
    go_wp2_with (go_at_call 20; refine (awake_c _).mono ?_; rintro e w9 ⟨rfl, hk9⟩)
    go_ret
    exact ⟨rfl, K2.out.trans (K4.out.trans hk9)⟩

end Go.Proofs.Ytcjadneamacilaa.C

/- SnapDiff's walk where nothing differs. -/
import Derived.Test.YtcjadneamacilaaN
import Derived.Deep.RegionLaw
import Derived.Deep.CutBlock
namespace Go.Proofs.Ytcjadneamacilaa.C
open Go.RowKit Go.Shelf

set_option maxRecDepth 100000 in
set_option maxHeartbeats 8000000 in
theorem Diff_zero (p q : Pl) (s t : Sn) (w : World) (hp : Snp w p s) (hq : Snp w q t) (h1 : smallP s) (h0 : pairE s t = 0) (hm0 : (dl s t s.nw).length = 0) :
    Calls Try.prog 4 #[.agg #[Value.int .i64 s.fr, .int .i64 s.up, .slice p.aw s.nw p.cw, .slice p.at' s.nt p.ct, .slice p.ac s.nc p.cc], .agg #[Value.int .i64 t.fr, .int .i64 t.up, .slice q.aw t.nw q.cw, .slice q.at' t.nt q.ct, .slice q.ac t.nc q.cc]] w fun e w' => e = .returned (.bool true) ∧ Kept w w' := by
  have K2 : Hid (Kept w ((w.alloc (.cells #[Value.int .i64 s.fr, .int .i64 s.up, .slice p.aw s.nw p.cw, .slice p.at' s.nt p.ct, .slice p.ac s.nc p.cc] 56)).alloc (.cells #[Value.int .i64 t.fr, .int .i64 t.up, .slice q.aw t.nw q.cw, .slice q.at' t.nt q.ct, .slice q.ac t.nc q.cc] 56))) := ((Kept.refl w).alloc _).alloc _
  have HT := Lib.hid (two_new w p q s t)
  have hsm1 := small_c ((w.alloc (.cells #[Value.int .i64 s.fr, .int .i64 s.up, .slice p.aw s.nw p.cw, .slice p.at' s.nt p.ct, .slice p.ac s.nc p.cc] 56)).alloc (.cells #[Value.int .i64 t.fr, .int .i64 t.up, .slice q.aw t.nw q.cw, .slice q.at' t.nt q.ct, .slice q.ac t.nc q.cc] 56)) p s (hp.kept K2.out)
  rw [decide_eq_true h1] at hsm1
  have HS1 := Lib.hid hsm1
  clear hsm1 h1
  have hdl : diffL s t = dl s t s.nw := if_pos h0
  have HL := Lib.hid hdl
  have HP := Lib.hid h0
  have HA := Lib.hid hp
  have HB := Lib.hid hq
  obtain ⟨m, hm⟩ : ∃ m, (dl s t s.nw).length = m := ⟨_, rfl⟩
  have HM := Lib.hid hm
  have hmz : m = 0 := by omega
  clear hp hq h0 hdl hm0 hm
  go_enter Try.func4, Try.ntmps4
  go_wp2_with fail
  refine HS1.out.mono ?_
  rintro e w1 ⟨rfl, hk1⟩
  have K3 := Lib.hid hk1
  clear hk1
  generalize ((w.alloc (.cells #[Value.int .i64 s.fr, .int .i64 s.up, .slice p.aw s.nw p.cw, .slice p.at' s.nt p.ct, .slice p.ac s.nc p.cc] 56)).alloc (.cells #[Value.int .i64 t.fr, .int .i64 t.up, .slice q.aw t.nw q.cw, .slice q.at' t.nt q.ct, .slice q.ac t.nc q.cc] 56)) = W2 at K2 HT HS1 K3
  have a0 := ((HT.out.kept K3.out)).a0
  have a1 := ((HT.out.kept K3.out)).a1
  have a2 := ((HT.out.kept K3.out)).a2
  have a3 := ((HT.out.kept K3.out)).a3
  have a4 := ((HT.out.kept K3.out)).a4
  have c0 := ((HT.out.kept K3.out)).c0
  have c1 := ((HT.out.kept K3.out)).c1
  have c2 := ((HT.out.kept K3.out)).c2
  have c3 := ((HT.out.kept K3.out)).c3
  have c4 := ((HT.out.kept K3.out)).c4
  go_wp2_with fail
  refine (small_c _ _ t (HB.out.kept (K2.out.trans K3.out))).mono ?_
  by_cases h2 : smallP t

  · rw [decide_eq_true h2]
    rintro e w4 ⟨rfl, hk⟩
    have K4 := Lib.hid (K3.out.trans hk)
    clear hk h2
    clear a0 a1 a2 a3 a4 c0 c1 c2 c3 c4
    have a0 := ((HT.out.kept K4.out)).a0
    have a1 := ((HT.out.kept K4.out)).a1
    have a2 := ((HT.out.kept K4.out)).a2
    have a3 := ((HT.out.kept K4.out)).a3
    have a4 := ((HT.out.kept K4.out)).a4
    have c0 := ((HT.out.kept K4.out)).c0
    have c1 := ((HT.out.kept K4.out)).c1
    have c2 := ((HT.out.kept K4.out)).c2
    have c3 := ((HT.out.kept K4.out)).c3
    have c4 := ((HT.out.kept K4.out)).c4
    go_wp2_with fail
    refine (diff_c _ _ _ s t (HA.out.kept (K2.out.trans K4.out)) (HB.out.kept (K2.out.trans K4.out))).mono ?_
    rw [HL.out, HP.out]
    rintro e w5 ⟨v, rfl, ⟨a5, n5, rfl, hrow⟩, hk⟩
    rw [HM.out] at hrow ⊢
    have K5 := Lib.hid (K4.out.trans hk)
    clear hk
    clear a0 a1 a2 a3 a4 c0 c1 c2 c3 c4
    subst hmz
    clear hrow
    have a0 := ((HT.out.kept K5.out)).a0
    have a1 := ((HT.out.kept K5.out)).a1
    have a2 := ((HT.out.kept K5.out)).a2
    have a3 := ((HT.out.kept K5.out)).a3
    have a4 := ((HT.out.kept K5.out)).a4
    have c0 := ((HT.out.kept K5.out)).c0
    have c1 := ((HT.out.kept K5.out)).c1
    have c2 := ((HT.out.kept K5.out)).c2
    have c3 := ((HT.out.kept K5.out)).c3
    have c4 := ((HT.out.kept K5.out)).c4
    go_wp2_with fail
    refine wp_loop_rounds 1 ?_
    rw [rounds_succ]
    go_wp2_with fail
    have KW := K5
    have hSm : Same s t := (dl_nil s t HP.out).1 (List.eq_nil_of_length_eq_zero HM.out)
    have hsame := same_c _ _ _ s t (HA.out.kept (K2.out.trans KW.out)) (HB.out.kept (K2.out.trans KW.out))
    rw [decide_eq_true hSm] at hsame
    have HS := Lib.hid hsame
    clear hSm hsame
    go_wp2_with (first | (go_at_call 25; refine HS.out.mono ?_; rintro e w6 ⟨rfl, hk5⟩) | (go_at_call 20; refine (awake_c _).mono ?_; rintro e w9 ⟨rfl, hk9⟩))
    go_ret
    exact ⟨rfl, K2.out.trans (KW.out.trans (hk5.trans hk9))⟩
  · rw [decide_eq_false h2]
    rintro e w4 ⟨rfl, hk⟩
    have K4 := Lib.hid (K3.out.trans hk)
    clear hk h2
    go_wp2_with (go_at_call 20; refine (awake_c _).mono ?_; rintro e w9 ⟨rfl, hk9⟩)
    go_ret
    exact ⟨rfl, K2.out.trans (K4.out.trans hk9)⟩

end Go.Proofs.Ytcjadneamacilaa.C

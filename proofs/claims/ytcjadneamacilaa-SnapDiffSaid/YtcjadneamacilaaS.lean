/- SnapDiff's walk. -/
import Derived.Test.YtcjadneamacilaaS1
import Derived.Test.YtcjadneamacilaaS2
import Derived.Test.YtcjadneamacilaaS3
import Derived.Deep.RegionLaw
import Derived.Deep.CutBlock
namespace Go.Proofs.Ytcjadneamacilaa.C
open Go.RowKit Go.Shelf

set_option maxRecDepth 100000 in
theorem Diff_w (p q : Pl) (s t : Sn) (w : World) (hp : Snp w p s) (hq : Snp w q t) :
    Calls Try.prog 4 #[.agg #[Value.int .i64 s.fr, .int .i64 s.up, .slice p.aw s.nw p.cw, .slice p.at' s.nt p.ct, .slice p.ac s.nc p.cc], .agg #[Value.int .i64 t.fr, .int .i64 t.up, .slice q.aw t.nw q.cw, .slice q.at' t.nt q.ct, .slice q.ac t.nc q.cc]] w fun e w' => e = .returned (.bool true) ∧ Kept w w' := by
  by_cases h1 : smallP s
  · by_cases h0 : pairE s t = 0
    · by_cases hm0 : (dl s t s.nw).length = 0
      · exact Diff_zero p q s t w hp hq h1 h0 hm0
      · exact Diff_pos p q s t w hp hq h1 h0 hm0
    · exact Diff_bad p q s t w hp hq h1 h0
  · have K2 : Hid (Kept w ((w.alloc (.cells #[Value.int .i64 s.fr, .int .i64 s.up, .slice p.aw s.nw p.cw, .slice p.at' s.nt p.ct, .slice p.ac s.nc p.cc] 56)).alloc (.cells #[Value.int .i64 t.fr, .int .i64 t.up, .slice q.aw t.nw q.cw, .slice q.at' t.nt q.ct, .slice q.ac t.nc q.cc] 56))) := ((Kept.refl w).alloc _).alloc _
    have hsm1 := small_c ((w.alloc (.cells #[Value.int .i64 s.fr, .int .i64 s.up, .slice p.aw s.nw p.cw, .slice p.at' s.nt p.ct, .slice p.ac s.nc p.cc] 56)).alloc (.cells #[Value.int .i64 t.fr, .int .i64 t.up, .slice q.aw t.nw q.cw, .slice q.at' t.nt q.ct, .slice q.ac t.nc q.cc] 56)) p s (hp.kept K2.out)
    rw [decide_eq_false h1] at hsm1
    have HS1 := Lib.hid hsm1
    clear hsm1 hp hq h1
    go_enter Try.func4, Try.ntmps4
    go_wp2_with (first | (go_at_call 21; refine HS1.out.mono ?_; rintro e w1 ⟨rfl, hk1⟩) | (go_at_call 20; refine (awake_c _).mono ?_; rintro e w9 ⟨rfl, hk9⟩))
    go_ret
    exact ⟨rfl, K2.out.trans (hk1.trans hk9)⟩
end Go.Proofs.Ytcjadneamacilaa.C

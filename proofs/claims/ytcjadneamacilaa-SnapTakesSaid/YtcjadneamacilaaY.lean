/- snap.Cut: what it leans on; where it may not. -/
import Derived.Test.YtcjadneamacilaaX
import Derived.Test.YtcjadneamacilaaJ
namespace Go.Proofs.Ytcjadneamacilaa.C
open Go.RowKit

set_option maxRecDepth 100000 in
set_option maxHeartbeats 2000000 in
theorem text_bad (w : World) (p : Pl) (s : Sn) (f : Int) (hp : Snp w p s) (h : ¬ (Right s ∧ s.fr ≤ f ∧ f ≤ s.up - 1)) :
    Calls Try.prog 27 #[.agg #[.int .i64 s.fr, .int .i64 s.up, .slice p.aw s.nw p.cw, .slice p.at' s.nt p.ct, .slice p.ac s.nc p.cc], .int .i64 f] w fun e w' => e = .returned (.tuple #[.string ⟨#[]⟩, .int .i64 (textE s f)]) ∧ textE s f ≠ 0 ∧ Kept w w' := by
  have K1 : Hid (Kept w (w.alloc (.cells #[.int .i64 s.fr, .int .i64 s.up, .slice p.aw s.nw p.cw, .slice p.at' s.nt p.ct, .slice p.ac s.nc p.cc] 56))) := (Kept.refl w).alloc _
  have HP := Lib.hid hp
  by_cases hR : Right s
  · have hin : ¬ (s.fr ≤ f ∧ f ≤ s.up - 1) := fun hh => h ⟨hR, hh⟩
    have hE : textE s f = 1 := by unfold textE; rw [if_neg (fun hh => hh hR), if_neg hin]
    have bI : inB f s.fr (s.up - 1) = false := decide_eq_false hin
    have r0 := hR.1.1
    have r1 := hR.1.2.1
    have r2 := hR.1.2.2.1
    have hup : 0 ≤ s.up := by omega
    have HRt := Lib.hid (decide_eq_true hR)
    rw [hE]
    clear h hR hin hE hp
    go_enter Try.func27, Try.ntmps27
    go_wp2_with fail
    refine (right_c _ p s (HP.out.kept K1.out)).mono ?_
    rw [HRt.out]
    rintro e w1 ⟨rfl, hk1⟩
    have a0 := hk1.cell (p := ⟨w.heap.size, 0, none⟩) (v := .int .i64 s.fr) (by simp)
    have a1 := hk1.cell (p := ⟨w.heap.size, 1, none⟩) (v := .int .i64 s.up) (by simp)
    have K2 := Lib.hid (K1.out.trans hk1)
    clear hk1
    go_wp2_with (go_at_call 67; refine (sin_c _ _ _ _).mono ?_; rintro e w' ⟨rfl, rfl⟩)
    go_ret2
    exact ⟨rfl, by omega, K2.out⟩
  · have hE : textE s f = 12 := by unfold textE; rw [if_pos hR]
    have HRt := Lib.hid (decide_eq_false hR)
    rw [hE]
    clear h hR hE hp
    go_enter Try.func27, Try.ntmps27
    go_wp2_with fail
    refine (right_c _ p s (HP.out.kept K1.out)).mono ?_
    rw [HRt.out]
    rintro e w1 ⟨rfl, hk1⟩
    have K2 := Lib.hid (K1.out.trans hk1)
    clear hk1
    go_wp2_with fail
    go_ret2
    exact ⟨rfl, by omega, K2.out⟩

def cutE (s : Sn) (a b : Int) : Int := if ¬ Right s then 12 else if s.fr ≤ a ∧ b ≤ s.up ∧ a ≤ b then 0 else 1

set_option maxRecDepth 100000 in
set_option maxHeartbeats 2000000 in
theorem cut_bad (w : World) (p : Pl) (s : Sn) (a b : Int) (hp : Snp w p s) (h : cutE s a b ≠ 0) :
    Calls Try.prog 26 #[.agg #[.int .i64 s.fr, .int .i64 s.up, .slice p.aw s.nw p.cw, .slice p.at' s.nt p.ct, .slice p.ac s.nc p.cc], .int .i64 a, .int .i64 b] w fun e w' => e = .returned (.tuple #[.agg #[.int .i64 0, .int .i64 0, .slice none 0 0, .slice none 0 0, .slice none 0 0], .int .i64 (cutE s a b)]) ∧ Kept w w' := by
  have K1 : Hid (Kept w ((w.alloc (.cells #[.int .i64 s.fr, .int .i64 s.up, .slice p.aw s.nw p.cw, .slice p.at' s.nt p.ct, .slice p.ac s.nc p.cc] 56)).alloc (.cells #[.int .i64 0, .int .i64 0, .slice none 0 0, .slice none 0 0, .slice none 0 0] 56))) := ((Kept.refl w).alloc _).alloc _
  have HP := Lib.hid hp
  have hbx : ∀ W, Kept ((w.alloc (.cells #[.int .i64 s.fr, .int .i64 s.up, .slice p.aw s.nw p.cw, .slice p.at' s.nt p.ct, .slice p.ac s.nc p.cc] 56)).alloc (.cells #[.int .i64 0, .int .i64 0, .slice none 0 0, .slice none 0 0, .slice none 0 0] 56)) W →
      W.cell? ⟨w.heap.size, 0, none⟩ = some (.int .i64 s.fr) ∧ W.cell? ⟨w.heap.size, 1, none⟩ = some (.int .i64 s.up) ∧ (∀ i v, (#[Value.int .i64 0, .int .i64 0, .slice none 0 0, .slice none 0 0, .slice none 0 0] : Array Value)[i]? = some v → W.cell? ⟨w.heap.size + 1, i, none⟩ = some v) ∧ (∀ o, W.frozen? ⟨w.heap.size + 1, o, none⟩ = false) := fun W hW =>
    ⟨hW.cell (by rw [World.cell?_alloc_lt _ _ _ (by simp)]; simp), hW.cell (by rw [World.cell?_alloc_lt _ _ _ (by simp)]; simp),
      fun i v hv => hW.cell (by rw [show w.heap.size + 1 = (w.alloc (.cells #[.int .i64 s.fr, .int .i64 s.up, .slice p.aw s.nw p.cw, .slice p.at' s.nt p.ct, .slice p.ac s.nc p.cc] 56)).heap.size from by simp, World.cell?_alloc_new]; exact hv),
      fun o => (hW.frozen (p := ⟨w.heap.size + 1, o, none⟩) (by simp)).trans (by rw [frozen?_alloc_cells, frozen?_alloc_cells]; simp [World.frozen?])⟩
  have HBX := Lib.hid hbx
  clear hbx hp
  by_cases hR : Right s
  · have hin : ¬ (s.fr ≤ a ∧ b ≤ s.up ∧ a ≤ b) := fun hh => h (by unfold cutE; rw [if_neg (fun x => x hR), if_pos hh])
    have hE : cutE s a b = 1 := by unfold cutE; rw [if_neg (fun hh => hh hR), if_neg hin]
    have HRt := Lib.hid (decide_eq_true hR)
    rw [hE]
    clear h hR hE
    by_cases h1 : s.fr ≤ a
    · by_cases h2 : b ≤ s.up
      · have h3 : ¬ a ≤ b := fun hh => hin ⟨h1, h2, hh⟩
        clear hin
        go_enter Try.func26, Try.ntmps26
        go_wp2_with fail
        refine (right_c _ p s (HP.out.kept K1.out)).mono ?_
        rw [HRt.out]
        rintro e w1 ⟨rfl, hk1⟩
        obtain ⟨a0, a1, hc, hz⟩ := HBX.out _ hk1
        have c0 := hc 0 (.int .i64 0) rfl
        have c1 := hc 1 (.int .i64 0) rfl
        have c2 := hc 2 (.slice none 0 0) rfl
        have c3 := hc 3 (.slice none 0 0) rfl
        have c4 := hc 4 (.slice none 0 0) rfl
        have z0 := hz 0
        have z1 := hz 1
        have z2 := hz 2
        have z3 := hz 3
        have z4 := hz 4
        have K2 := Lib.hid (K1.out.trans hk1)
        clear hk1 hc hz
        go_wp2_with fail
        have hKF : Kept w (((((w1.setCell ⟨w.heap.size + 1, 0, none⟩ (.int .i64 0)).setCell ⟨w.heap.size + 1, 1, none⟩ (.int .i64 0)).setCell ⟨w.heap.size + 1, 2, none⟩ (.slice none 0 0)).setCell ⟨w.heap.size + 1, 3, none⟩ (.slice none 0 0)).setCell ⟨w.heap.size + 1, 4, none⟩ (.slice none 0 0)) := (((((K2.out.setCell (p := ⟨w.heap.size + 1, 0, none⟩) (by simp) _).setCell (p := ⟨w.heap.size + 1, 1, none⟩) (by simp) _).setCell (p := ⟨w.heap.size + 1, 2, none⟩) (by simp) _).setCell (p := ⟨w.heap.size + 1, 3, none⟩) (by simp) _).setCell (p := ⟨w.heap.size + 1, 4, none⟩) (by simp) _)
        obtain ⟨q0, q1, q2, q3, q4⟩ := five w1 (w.heap.size + 1) (.int .i64 0) (.int .i64 0) (.slice none 0 0) (.slice none 0 0) (.slice none 0 0) _ _ _ _ _ c0 c1 c2 c3 c4
        generalize (((((w1.setCell ⟨w.heap.size + 1, 0, none⟩ (.int .i64 0)).setCell ⟨w.heap.size + 1, 1, none⟩ (.int .i64 0)).setCell ⟨w.heap.size + 1, 2, none⟩ (.slice none 0 0)).setCell ⟨w.heap.size + 1, 3, none⟩ (.slice none 0 0)).setCell ⟨w.heap.size + 1, 4, none⟩ (.slice none 0 0)) = WF at hKF q0 q1 q2 q3 q4 ⊢
        exact bodyPost_ret (v := .tuple #[.agg #[.int .i64 0, .int .i64 0, .slice none 0 0, .slice none 0 0, .slice none 0 0], .int .i64 1]) (by simp [results, Try.results26, go_sem, q0, q1, q2, q3, q4]) rfl ⟨rfl, hKF⟩
      · clear hin
        go_enter Try.func26, Try.ntmps26
        go_wp2_with fail
        refine (right_c _ p s (HP.out.kept K1.out)).mono ?_
        rw [HRt.out]
        rintro e w1 ⟨rfl, hk1⟩
        obtain ⟨a0, a1, hc, hz⟩ := HBX.out _ hk1
        have c0 := hc 0 (.int .i64 0) rfl
        have c1 := hc 1 (.int .i64 0) rfl
        have c2 := hc 2 (.slice none 0 0) rfl
        have c3 := hc 3 (.slice none 0 0) rfl
        have c4 := hc 4 (.slice none 0 0) rfl
        have z0 := hz 0
        have z1 := hz 1
        have z2 := hz 2
        have z3 := hz 3
        have z4 := hz 4
        have K2 := Lib.hid (K1.out.trans hk1)
        clear hk1 hc hz
        go_wp2_with fail
        have hKF : Kept w (((((w1.setCell ⟨w.heap.size + 1, 0, none⟩ (.int .i64 0)).setCell ⟨w.heap.size + 1, 1, none⟩ (.int .i64 0)).setCell ⟨w.heap.size + 1, 2, none⟩ (.slice none 0 0)).setCell ⟨w.heap.size + 1, 3, none⟩ (.slice none 0 0)).setCell ⟨w.heap.size + 1, 4, none⟩ (.slice none 0 0)) := (((((K2.out.setCell (p := ⟨w.heap.size + 1, 0, none⟩) (by simp) _).setCell (p := ⟨w.heap.size + 1, 1, none⟩) (by simp) _).setCell (p := ⟨w.heap.size + 1, 2, none⟩) (by simp) _).setCell (p := ⟨w.heap.size + 1, 3, none⟩) (by simp) _).setCell (p := ⟨w.heap.size + 1, 4, none⟩) (by simp) _)
        obtain ⟨q0, q1, q2, q3, q4⟩ := five w1 (w.heap.size + 1) (.int .i64 0) (.int .i64 0) (.slice none 0 0) (.slice none 0 0) (.slice none 0 0) _ _ _ _ _ c0 c1 c2 c3 c4
        generalize (((((w1.setCell ⟨w.heap.size + 1, 0, none⟩ (.int .i64 0)).setCell ⟨w.heap.size + 1, 1, none⟩ (.int .i64 0)).setCell ⟨w.heap.size + 1, 2, none⟩ (.slice none 0 0)).setCell ⟨w.heap.size + 1, 3, none⟩ (.slice none 0 0)).setCell ⟨w.heap.size + 1, 4, none⟩ (.slice none 0 0)) = WF at hKF q0 q1 q2 q3 q4 ⊢
        exact bodyPost_ret (v := .tuple #[.agg #[.int .i64 0, .int .i64 0, .slice none 0 0, .slice none 0 0, .slice none 0 0], .int .i64 1]) (by simp [results, Try.results26, go_sem, q0, q1, q2, q3, q4]) rfl ⟨rfl, hKF⟩
    · clear hin
      go_enter Try.func26, Try.ntmps26
      go_wp2_with fail
      refine (right_c _ p s (HP.out.kept K1.out)).mono ?_
      rw [HRt.out]
      rintro e w1 ⟨rfl, hk1⟩
      obtain ⟨a0, a1, hc, hz⟩ := HBX.out _ hk1
      have c0 := hc 0 (.int .i64 0) rfl
      have c1 := hc 1 (.int .i64 0) rfl
      have c2 := hc 2 (.slice none 0 0) rfl
      have c3 := hc 3 (.slice none 0 0) rfl
      have c4 := hc 4 (.slice none 0 0) rfl
      have z0 := hz 0
      have z1 := hz 1
      have z2 := hz 2
      have z3 := hz 3
      have z4 := hz 4
      have K2 := Lib.hid (K1.out.trans hk1)
      clear hk1 hc hz
      go_wp2_with fail
      have hKF : Kept w (((((w1.setCell ⟨w.heap.size + 1, 0, none⟩ (.int .i64 0)).setCell ⟨w.heap.size + 1, 1, none⟩ (.int .i64 0)).setCell ⟨w.heap.size + 1, 2, none⟩ (.slice none 0 0)).setCell ⟨w.heap.size + 1, 3, none⟩ (.slice none 0 0)).setCell ⟨w.heap.size + 1, 4, none⟩ (.slice none 0 0)) := (((((K2.out.setCell (p := ⟨w.heap.size + 1, 0, none⟩) (by simp) _).setCell (p := ⟨w.heap.size + 1, 1, none⟩) (by simp) _).setCell (p := ⟨w.heap.size + 1, 2, none⟩) (by simp) _).setCell (p := ⟨w.heap.size + 1, 3, none⟩) (by simp) _).setCell (p := ⟨w.heap.size + 1, 4, none⟩) (by simp) _)
      obtain ⟨q0, q1, q2, q3, q4⟩ := five w1 (w.heap.size + 1) (.int .i64 0) (.int .i64 0) (.slice none 0 0) (.slice none 0 0) (.slice none 0 0) _ _ _ _ _ c0 c1 c2 c3 c4
      generalize (((((w1.setCell ⟨w.heap.size + 1, 0, none⟩ (.int .i64 0)).setCell ⟨w.heap.size + 1, 1, none⟩ (.int .i64 0)).setCell ⟨w.heap.size + 1, 2, none⟩ (.slice none 0 0)).setCell ⟨w.heap.size + 1, 3, none⟩ (.slice none 0 0)).setCell ⟨w.heap.size + 1, 4, none⟩ (.slice none 0 0)) = WF at hKF q0 q1 q2 q3 q4 ⊢
      exact bodyPost_ret (v := .tuple #[.agg #[.int .i64 0, .int .i64 0, .slice none 0 0, .slice none 0 0, .slice none 0 0], .int .i64 1]) (by simp [results, Try.results26, go_sem, q0, q1, q2, q3, q4]) rfl ⟨rfl, hKF⟩
  · have hE : cutE s a b = 12 := by unfold cutE; rw [if_pos hR]
    have HRt := Lib.hid (decide_eq_false hR)
    rw [hE]
    clear h hR hE
    go_enter Try.func26, Try.ntmps26
    go_wp2_with fail
    refine (right_c _ p s (HP.out.kept K1.out)).mono ?_
    rw [HRt.out]
    rintro e w1 ⟨rfl, hk1⟩
    obtain ⟨a0, a1, hc, hz⟩ := HBX.out _ hk1
    have c0 := hc 0 (.int .i64 0) rfl
    have c1 := hc 1 (.int .i64 0) rfl
    have c2 := hc 2 (.slice none 0 0) rfl
    have c3 := hc 3 (.slice none 0 0) rfl
    have c4 := hc 4 (.slice none 0 0) rfl
    have z0 := hz 0
    have z1 := hz 1
    have z2 := hz 2
    have z3 := hz 3
    have z4 := hz 4
    have K2 := Lib.hid (K1.out.trans hk1)
    clear hk1 hc hz
    go_wp2_with fail
    have hKF : Kept w (((((w1.setCell ⟨w.heap.size + 1, 0, none⟩ (.int .i64 0)).setCell ⟨w.heap.size + 1, 1, none⟩ (.int .i64 0)).setCell ⟨w.heap.size + 1, 2, none⟩ (.slice none 0 0)).setCell ⟨w.heap.size + 1, 3, none⟩ (.slice none 0 0)).setCell ⟨w.heap.size + 1, 4, none⟩ (.slice none 0 0)) := (((((K2.out.setCell (p := ⟨w.heap.size + 1, 0, none⟩) (by simp) _).setCell (p := ⟨w.heap.size + 1, 1, none⟩) (by simp) _).setCell (p := ⟨w.heap.size + 1, 2, none⟩) (by simp) _).setCell (p := ⟨w.heap.size + 1, 3, none⟩) (by simp) _).setCell (p := ⟨w.heap.size + 1, 4, none⟩) (by simp) _)
    obtain ⟨q0, q1, q2, q3, q4⟩ := five w1 (w.heap.size + 1) (.int .i64 0) (.int .i64 0) (.slice none 0 0) (.slice none 0 0) (.slice none 0 0) _ _ _ _ _ c0 c1 c2 c3 c4
    generalize (((((w1.setCell ⟨w.heap.size + 1, 0, none⟩ (.int .i64 0)).setCell ⟨w.heap.size + 1, 1, none⟩ (.int .i64 0)).setCell ⟨w.heap.size + 1, 2, none⟩ (.slice none 0 0)).setCell ⟨w.heap.size + 1, 3, none⟩ (.slice none 0 0)).setCell ⟨w.heap.size + 1, 4, none⟩ (.slice none 0 0)) = WF at hKF q0 q1 q2 q3 q4 ⊢
    exact bodyPost_ret (v := .tuple #[.agg #[.int .i64 0, .int .i64 0, .slice none 0 0, .slice none 0 0, .slice none 0 0], .int .i64 12]) (by simp [results, Try.results26, go_sem, q0, q1, q2, q3, q4]) rfl ⟨rfl, hKF⟩
end Go.Proofs.Ytcjadneamacilaa.C

/- snap.pair, snap.Words. -/
import Derived.Test.YtcjadneamacilaaO
import Derived.Deep.RegionHeld3
import Derived.Maps.AppendAt
namespace Go.Proofs.Ytcjadneamacilaa.C
open Go.RowKit Go.Shelf

def pairE (s t : Sn) : Int := if ¬ Right s ∨ ¬ Right t then 12 else if s.fr ≠ t.fr ∨ s.up ≠ t.up then 1 else 0

set_option maxRecDepth 100000 in
set_option maxHeartbeats 1000000 in
theorem pair_c (w : World) (p q : Pl) (s t : Sn) (hp : Snp w p s) (hq : Snp w q t) :
    Calls Try.prog 65 #[.agg #[.int .i64 s.fr, .int .i64 s.up, .slice p.aw s.nw p.cw, .slice p.at' s.nt p.ct, .slice p.ac s.nc p.cc], .agg #[.int .i64 t.fr, .int .i64 t.up, .slice q.aw t.nw q.cw, .slice q.at' t.nt q.ct, .slice q.ac t.nc q.cc]] w fun e w' => e = .returned (.int .i64 (pairE s t)) ∧ Kept w w' := by
  have HA := Lib.hid hp
  have HB := Lib.hid hq
  have K2 : Hid (Kept w ((w.alloc (.cells #[.int .i64 s.fr, .int .i64 s.up, .slice p.aw s.nw p.cw, .slice p.at' s.nt p.ct, .slice p.ac s.nc p.cc] 56)).alloc (.cells #[.int .i64 t.fr, .int .i64 t.up, .slice q.aw t.nw q.cw, .slice q.at' t.nt q.ct, .slice q.ac t.nc q.cc] 56))) := ((Kept.refl w).alloc _).alloc _
  have bx : ∀ W, Kept ((w.alloc (.cells #[.int .i64 s.fr, .int .i64 s.up, .slice p.aw s.nw p.cw, .slice p.at' s.nt p.ct, .slice p.ac s.nc p.cc] 56)).alloc (.cells #[.int .i64 t.fr, .int .i64 t.up, .slice q.aw t.nw q.cw, .slice q.at' t.nt q.ct, .slice q.ac t.nc q.cc] 56)) W →
      (∀ i v, (#[Value.int .i64 s.fr, .int .i64 s.up, .slice p.aw s.nw p.cw, .slice p.at' s.nt p.ct, .slice p.ac s.nc p.cc] : Array Value)[i]? = some v → W.cell? ⟨w.heap.size, i, none⟩ = some v) ∧
      (∀ i v, (#[Value.int .i64 t.fr, .int .i64 t.up, .slice q.aw t.nw q.cw, .slice q.at' t.nt q.ct, .slice q.ac t.nc q.cc] : Array Value)[i]? = some v → W.cell? ⟨w.heap.size + 1, i, none⟩ = some v) := fun W hW =>
    ⟨fun i v hv => hW.cell (by rw [World.cell?_alloc_lt _ _ _ (by simp), World.cell?_alloc_new]; exact hv),
     fun i v hv => hW.cell (by rw [show w.heap.size + 1 = (w.alloc (.cells #[.int .i64 s.fr, .int .i64 s.up, .slice p.aw s.nw p.cw, .slice p.at' s.nt p.ct, .slice p.ac s.nc p.cc] 56)).heap.size from by simp, World.cell?_alloc_new]; exact hv)⟩
  have BX := Lib.hid bx
  clear hp hq bx
  go_enter Try.func65, Try.ntmps65
  go_wp2_with fail
  refine (right_c _ p s (HA.out.kept K2.out)).mono ?_
  by_cases h1 : Right s
  · rw [decide_eq_true h1]
    rintro e w1 ⟨rfl, hk1⟩
    have hbx := BX.out _ hk1
    have a0 := hbx.1 0 (.int .i64 s.fr) rfl
    have a1 := hbx.1 1 (.int .i64 s.up) rfl
    have b0 := hbx.2 0 (.int .i64 t.fr) rfl
    have b1 := hbx.2 1 (.int .i64 t.up) rfl
    have b2 := hbx.2 2 (.slice q.aw t.nw q.cw) rfl
    have b3 := hbx.2 3 (.slice q.at' t.nt q.ct) rfl
    have b4 := hbx.2 4 (.slice q.ac t.nc q.cc) rfl
    have K1 := Lib.hid (K2.out.trans hk1)
    have H1 := Lib.hid h1
    clear hbx hk1 h1
    go_wp2_with fail
    refine (right_c _ q t (HB.out.kept K1.out)).mono ?_
    by_cases h2 : Right t
    · rw [decide_eq_true h2]
      rintro e w3 ⟨rfl, hk3⟩
      have a0' := hk3.cell a0
      have a1' := hk3.cell a1
      have b0' := hk3.cell b0
      have b1' := hk3.cell b1
      have K3 := Lib.hid (K1.out.trans hk3)
      clear hk3 a0 a1 b0 b1 b2 b3 b4
      by_cases h3 : s.fr = t.fr
      · have e3 : (s.fr != t.fr) = false := by simp [h3]
        by_cases h4 : s.up = t.up
        · have e4 : (s.up != t.up) = false := by simp [h4]
          have HE : Hid (pairE s t = 0) := by show _ = _; unfold pairE; rw [if_neg (fun hh => hh.elim (fun h => h H1.out) (fun h => h h2)), if_neg (by omega)]
          clear h2 h3 h4
          go_wp2_with fail
          go_ret
          exact ⟨by rw [HE.out]; rfl, K3.out⟩
        · have e4 : (s.up != t.up) = true := by simp [h4]
          have HE : Hid (pairE s t = 1) := by show _ = _; unfold pairE; rw [if_neg (fun hh => hh.elim (fun h => h H1.out) (fun h => h h2)), if_pos (by omega)]
          clear h2 h3 h4
          go_wp2_with fail
          go_ret
          exact ⟨by rw [HE.out]; rfl, K3.out⟩
      · have e3 : (s.fr != t.fr) = true := by simp [h3]
        have HE : Hid (pairE s t = 1) := by show _ = _; unfold pairE; rw [if_neg (fun hh => hh.elim (fun h => h H1.out) (fun h => h h2)), if_pos (by omega)]
        clear h2 h3
        go_wp2_with fail
        go_ret
        exact ⟨by rw [HE.out]; rfl, K3.out⟩
    · rw [decide_eq_false h2]
      have HE : Hid (pairE s t = 12) := by show _ = _; unfold pairE; rw [if_pos (.inr h2)]
      rintro e w3 ⟨rfl, hk3⟩
      have K3 := Lib.hid (K1.out.trans hk3)
      clear hk3 a0 a1 b0 b1 b2 b3 b4 h2
      go_wp2_with fail
      go_ret
      exact ⟨by rw [HE.out]; rfl, K3.out⟩
  · rw [decide_eq_false h1]
    have HE : Hid (pairE s t = 12) := by show _ = _; unfold pairE; rw [if_pos (.inl h1)]
    rintro e w3 ⟨rfl, hk3⟩
    have K3 := Lib.hid (K2.out.trans hk3)
    clear hk3 h1
    go_wp2_with fail
    go_ret
    exact ⟨by rw [HE.out]; rfl, K3.out⟩

/-- What a result that is a slice of numbers reads as. -/
def Lst (w : World) (v : Value) (xs : List Int) : Prop := ∃ a c, v = .slice a xs.length c ∧ RowI .i64 w a xs.length (fun i => xs.getD i 0)
theorem Lst.kept {w w' : World} {v : Value} {xs : List Int} (h : Lst w v xs) (k : Kept w w') : Lst w' v xs := by
  obtain ⟨a, c, e, hr⟩ := h
  exact ⟨a, c, e, hr.kept k⟩
theorem Lst.nil (w : World) : Lst w (.slice none 0 0) [] := ⟨none, 0, rfl, Nat.zero_le _, fun h => absurd h (by simp)⟩
theorem Lst.of {w : World} {base : Nat} {v : Value} {xs : List Int} (h : w.ownsRow base 3 1 v xs.length (xs.map (Value.int .i64))) (hl : xs.length ≤ 1000) (hw : ∀ x ∈ xs, (Lit.int .i64 x).wf = true) : Lst w v xs := by
  rcases Nat.eq_zero_or_pos xs.length with h0 | h0
  · obtain rfl := List.eq_nil_of_length_eq_zero h0
    obtain ⟨-, h | ⟨g, cap, cur, rfl, _, _, h1, h2, _⟩⟩ := h
    · rw [h.1]; exact Lst.nil w
    · exact ⟨_, _, rfl, Nat.zero_le _, fun h => absurd h (by simp)⟩
  · have hh := h
    obtain ⟨-, h | ⟨g, cap, cur, rfl, _, _, h1, h2, _⟩⟩ := h
    · omega
    · refine ⟨_, _, rfl, by simp [maxLen]; omega, fun _ => ⟨g, 0, rfl, fun i hi => ⟨?_, ?_⟩⟩⟩
      · rw [Nat.zero_add, hh.cellAt i (by omega), List.getElem?_map, List.getElem?_eq_getElem hi]
        simp [List.getD, List.getElem?_eq_getElem hi]
      · show (Lit.int .i64 (xs.getD i 0)).wf = true
        rw [List.getD_eq_getElem?_getD, List.getElem?_eq_getElem hi]
        exact hw _ (List.getElem_mem hi)
end Go.Proofs.Ytcjadneamacilaa.C

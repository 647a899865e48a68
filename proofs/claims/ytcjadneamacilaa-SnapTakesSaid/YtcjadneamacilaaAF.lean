/- palanquinref39: Words. -/
import Derived.Test.YtcjadneamacilaaAC
import Derived.Deep.RegionHeld3
namespace Go.Proofs.Ytcjadneamacilaa.C
open Go.RowKit

set_option maxRecDepth 100000 in
set_option maxHeartbeats 4000000 in
theorem rwords_in (w : World) (p q : Pl) (s t : Sn) (k : Nat) (hp : Snp w p s) (hq : Snp w q t) (h0 : pairE s t = 0) (hk : k < s.nw) :
    Calls Try.prog 29 #[.agg #[Value.int .i64 s.fr, .int .i64 s.up, .slice p.aw s.nw p.cw, .slice p.at' s.nt p.ct, .slice p.ac s.nc p.cc], .agg #[Value.int .i64 t.fr, .int .i64 t.up, .slice q.aw t.nw q.cw, .slice q.at' t.nt q.ct, .slice q.ac t.nc q.cc], .int .i64 (s.fr + k)] w fun e w' => ∃ v, e = .returned (.tuple #[v, .int .i64 0]) ∧ Lst w' v (difAt s t k) ∧ Kept w w' := by
  have HE := Lib.hid h0
  obtain ⟨hR1, hR2, e1, e2⟩ := pair0 h0
  obtain ⟨r0, r1, r2, r3, r4, r5⟩ := hR1.1
  obtain ⟨x0, x1, x2, x3, x4, x5⟩ := hR2.1
  have HA := Lib.hid hp
  have HB := Lib.hid hq
  have K2 : Hid (Kept w ((w.alloc (.cells #[Value.int .i64 s.fr, .int .i64 s.up, .slice p.aw s.nw p.cw, .slice p.at' s.nt p.ct, .slice p.ac s.nc p.cc] 56)).alloc (.cells #[Value.int .i64 t.fr, .int .i64 t.up, .slice q.aw t.nw q.cw, .slice q.at' t.nt q.ct, .slice q.ac t.nc q.cc] 56))) := ((Kept.refl w).alloc _).alloc _
  have HT := Lib.hid (two_new w p q s t)
  have hL100 : s.L k ≤ 100 := by have := (hR1.2 k hk).1; omega
  obtain ⟨aw, cw, A, K, at', ct, ac, cc⟩ := p
  obtain ⟨aw', cw', A', K', at2, ct', ac', cc'⟩ := q
  obtain ⟨b1, o1, ea, -⟩ := hp.wr (by omega)
  obtain ⟨b2, o2, eb, -⟩ := hq.wr (by omega)
  dsimp only at ea eb ⊢
  subst ea eb
  have RA : Hid (∀ W, Kept w W → RowI .u64 W (A k) (s.L k) (s.Z k)) := fun W hW => ((hp.rows k hk).1).kept hW
  have RB : Hid (∀ W, Kept w W → RowI .u64 W (A' k) (t.L k) (t.Z k)) := fun W hW => ((hq.rows k (by omega)).1).kept hW
  have RC : Hid (∀ W, Kept w W → W.cell? ⟨b1, o1 + k, none⟩ = some (.slice (A k) (s.L k) (K k)) ∧ W.cell? ⟨b2, o2 + k, none⟩ = some (.slice (A' k) (t.L k) (K' k))) := fun W hW => ⟨hW.cell (hp.cellW rfl k hk), hW.cell (hq.cellW rfl k (by omega))⟩
  have g1 : (k : Int) < s.nw := by omega
  have g2 : (k : Int) < t.nw := by omega
  have g4 : IntKind.i64.wrap (k : Int) = k := by rw [IntKind.wrap_i64]; omega
  have g5 : s.fr + (k : Int) - s.fr = k := by omega
  have g6 : ¬ s.fr + (k : Int) < s.fr := by omega
  have g7 : ¬ s.up ≤ s.fr + (k : Int) := by omega
  have hup : 0 ≤ s.up := by omega
  have hk64 : (k : Int) < 64 := by omega
  have HDA : Hid (difAt s t k = dif (s.Z k) (t.Z k) (t.L k) (s.L k)) := rfl
  clear hp hq h0 hR1 hR2 e1 e2 r3 r4 r5 x3 x4 x5
  go_enter Try.func29, Try.ntmps29
  go_wp2_with fail
  refine (rdiff_c _ ⟨some ⟨b1, o1, none⟩, cw, A, K, at', ct, ac, cc⟩ ⟨some ⟨b2, o2, none⟩, cw', A', K', at2, ct', ac', cc'⟩ s t (HA.out.kept K2.out) (HB.out.kept K2.out)).mono ?_
  rw [HE.out]
  rintro e w1 ⟨v1, rfl, -, hk1⟩
  have K1 := Lib.hid hk1
  have a0 := (HT.out.kept hk1).a0
  have a1 := (HT.out.kept hk1).a1
  clear hk1
  go_wp2_with fail
  have HS : Hid (∀ W, Kept w1 W → W.cell? ⟨w.heap.size, 0, none⟩ = some (.int .i64 s.fr) ∧ W.cell? ⟨w.heap.size, 2, none⟩ = some (.slice (some ⟨b1, o1, none⟩) s.nw cw) ∧ W.cell? ⟨w.heap.size + 1, 2, none⟩ = some (.slice (some ⟨b2, o2, none⟩) t.nw cw') ∧ W.cell? ⟨b1, o1 + k, none⟩ = some (.slice (A k) (s.L k) (K k)) ∧ W.cell? ⟨b2, o2 + k, none⟩ = some (.slice (A' k) (t.L k) (K' k))) := fun W hW =>
    ⟨(HT.out.kept (K1.out.trans hW)).a0, (HT.out.kept (K1.out.trans hW)).a2, (HT.out.kept (K1.out.trans hW)).c2, RC.out _ (K2.out.trans (K1.out.trans hW))⟩
  have KR : Hid (Kept w1 w1) := Kept.refl _
  go_region_held3 (fun W => W.cell? ⟨w.heap.size, 0, none⟩ = some (.int .i64 s.fr) ∧ W.cell? ⟨w.heap.size, 2, none⟩ = some (.slice (some ⟨b1, o1, none⟩) s.nw cw) ∧ W.cell? ⟨w.heap.size + 1, 2, none⟩ = some (.slice (some ⟨b2, o2, none⟩) t.nw cw') ∧ W.cell? ⟨b1, o1 + k, none⟩ = some (.slice (A k) (s.L k) (K k)) ∧ W.cell? ⟨b2, o2 + k, none⟩ = some (.slice (A' k) (t.L k) (K' k)))
    (first | exact HS.out _ K4.out | exact HS.out _ KR.out | exact HS.out _ KR.out.drew)
    (first
      | (go_at_call 64; refine (rw_c _ (A k) (A' k) (s.L k) (t.L k) (K k) (K' k) (s.Z k) (t.Z k) (RA.out _ (by first | exact K2.out.trans (K1.out.trans KR.out) | exact K2.out.trans (K1.out.trans KR.out.drew))) (RB.out _ (by first | exact K2.out.trans (K1.out.trans KR.out) | exact K2.out.trans (K1.out.trans KR.out.drew))) hL100).mono ?_; rintro e w4 ⟨v4, rfl, hL4, hk4⟩; have K4 : Hid (Kept w1 w4) := (by first | exact KR.out.trans hk4 | exact KR.out.drew.trans hk4); have HL4 := Lib.hid hL4; clear hk4 hL4))
  all_goals
    go_wp2_with fail
    go_ret2
    exact ⟨_, rfl, by rw [HDA.out]; exact HL4.out, K2.out.trans (K1.out.trans K4.out)⟩

set_option maxRecDepth 100000 in
set_option maxHeartbeats 4000000 in
theorem rwords_c (w : World) (p q : Pl) (s t : Sn) (f : Int) (hp : Snp w p s) (hq : Snp w q t) :
    Calls Try.prog 29 #[.agg #[Value.int .i64 s.fr, .int .i64 s.up, .slice p.aw s.nw p.cw, .slice p.at' s.nt p.ct, .slice p.ac s.nc p.cc], .agg #[Value.int .i64 t.fr, .int .i64 t.up, .slice q.aw t.nw q.cw, .slice q.at' t.nt q.ct, .slice q.ac t.nc q.cc], .int .i64 f] w fun e w' => ∃ v, e = .returned (.tuple #[v, .int .i64 (wordsE s t f)]) ∧ Lst w' v (wordsL s t f) ∧ Kept w w' := by
  by_cases h0 : pairE s t = 0
  · by_cases hin : s.fr ≤ f ∧ f ≤ s.up - 1
    · have hE : wordsE s t f = 0 := by unfold wordsE; rw [if_neg (by omega), if_pos hin]
      have hL : wordsL s t f = difAt s t (f - s.fr).toNat := if_pos hE
      obtain ⟨hR1, -, -, -⟩ := pair0 h0
      have hn := hR1.1.2.2.2.1
      obtain ⟨k, hk⟩ : ∃ k : Nat, f = s.fr + k := ⟨(f - s.fr).toNat, by omega⟩
      rw [hE, hL, hk, show (s.fr + (k : Int) - s.fr).toNat = k from by omega]
      exact rwords_in w p q s t k hp hq h0 (by omega)
    · have hE : wordsE s t f = 1 := by unfold wordsE; rw [if_neg (by omega), if_neg hin]
      have hL : wordsL s t f = [] := if_neg (by omega)
      rw [hE, hL]
      have HA := Lib.hid hp
      have HB := Lib.hid hq
      have K2 : Hid (Kept w ((w.alloc (.cells #[Value.int .i64 s.fr, .int .i64 s.up, .slice p.aw s.nw p.cw, .slice p.at' s.nt p.ct, .slice p.ac s.nc p.cc] 56)).alloc (.cells #[Value.int .i64 t.fr, .int .i64 t.up, .slice q.aw t.nw q.cw, .slice q.at' t.nt q.ct, .slice q.ac t.nc q.cc] 56))) := ((Kept.refl w).alloc _).alloc _
      have HT := Lib.hid (two_new w p q s t)
      have HE := Lib.hid h0
      by_cases h1 : f < s.fr
      · clear hp hq h0 hin hE hL
        go_enter Try.func29, Try.ntmps29
        go_wp2_with fail
        refine (rdiff_c _ p q s t (HA.out.kept K2.out) (HB.out.kept K2.out)).mono ?_
        rw [HE.out]
        rintro e w1 ⟨v1, rfl, -, hk1⟩
        have K1 := Lib.hid hk1
        have a0 := (HT.out.kept hk1).a0
        have a1 := (HT.out.kept hk1).a1
        clear hk1
        go_wp2_with fail
        go_ret2
        exact ⟨_, rfl, Lst.nil _, K2.out.trans K1.out⟩

      · have h2 : s.up ≤ f := by omega
        clear hp hq h0 hin hE hL
        go_enter Try.func29, Try.ntmps29
        go_wp2_with fail
        refine (rdiff_c _ p q s t (HA.out.kept K2.out) (HB.out.kept K2.out)).mono ?_
        rw [HE.out]
        rintro e w1 ⟨v1, rfl, -, hk1⟩
        have K1 := Lib.hid hk1
        have a0 := (HT.out.kept hk1).a0
        have a1 := (HT.out.kept hk1).a1
        clear hk1
        go_wp2_with fail
        go_ret2
        exact ⟨_, rfl, Lst.nil _, K2.out.trans K1.out⟩

  · have hE : wordsE s t f = pairE s t := if_pos h0
    have hL : wordsL s t f = [] := if_neg (by rw [hE]; exact h0)
    rw [hE, hL]
    have HA := Lib.hid hp
    have HB := Lib.hid hq
    have K2 : Hid (Kept w ((w.alloc (.cells #[Value.int .i64 s.fr, .int .i64 s.up, .slice p.aw s.nw p.cw, .slice p.at' s.nt p.ct, .slice p.ac s.nc p.cc] 56)).alloc (.cells #[Value.int .i64 t.fr, .int .i64 t.up, .slice q.aw t.nw q.cw, .slice q.at' t.nt q.ct, .slice q.ac t.nc q.cc] 56))) := ((Kept.refl w).alloc _).alloc _
    have HT := Lib.hid (two_new w p q s t)
    have bE : (pairE s t != 0) = true := by simp [h0]
    clear hp hq h0 hE hL
    have hRD := Lib.hid (rdiff_c _ p q s t (HA.out.kept K2.out) (HB.out.kept K2.out))
    generalize pairE s t = pe at bE hRD ⊢
    go_enter Try.func29, Try.ntmps29
    go_wp2_with fail
    refine hRD.out.mono ?_
    rintro e w1 ⟨v1, rfl, -, hk1⟩
    have K1 := Lib.hid hk1
    have a0 := (HT.out.kept hk1).a0
    have a1 := (HT.out.kept hk1).a1
    clear hk1
    go_wp2_with fail
    go_ret2
    exact ⟨_, rfl, Lst.nil _, K2.out.trans K1.out⟩

end Go.Proofs.Ytcjadneamacilaa.C

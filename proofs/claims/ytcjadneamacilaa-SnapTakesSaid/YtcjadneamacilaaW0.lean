/- snap.Cut of no frames. -/
import Derived.Test.YtcjadneamacilaaW
namespace Go.Proofs.Ytcjadneamacilaa.C
open Go.RowKit

structure BxG (w W : World) (s : Sn) (aw at' ac : Option Addr) (cw ct cc : Nat) : Prop where
  a0 : W.cell? ⟨w.heap.size, 0, none⟩ = some (.int .i64 s.fr)
  a1 : W.cell? ⟨w.heap.size, 1, none⟩ = some (.int .i64 s.up)
  a2 : W.cell? ⟨w.heap.size, 2, none⟩ = some (.slice aw s.nw cw)
  a3 : W.cell? ⟨w.heap.size, 3, none⟩ = some (.slice at' s.nt ct)
  a4 : W.cell? ⟨w.heap.size, 4, none⟩ = some (.slice ac s.nc cc)
  c0 : W.cell? ⟨w.heap.size + 1, 0, none⟩ = some (.int .i64 0)
  c1 : W.cell? ⟨w.heap.size + 1, 1, none⟩ = some (.int .i64 0)
  c2 : W.cell? ⟨w.heap.size + 1, 2, none⟩ = some (.slice none 0 0)
  c3 : W.cell? ⟨w.heap.size + 1, 3, none⟩ = some (.slice none 0 0)
  c4 : W.cell? ⟨w.heap.size + 1, 4, none⟩ = some (.slice none 0 0)
  fz : ∀ o, W.frozen? ⟨w.heap.size + 1, o, none⟩ = false
  lt : w.heap.size + 1 < W.heap.size
theorem BxG.kept {w W W' : World} {s : Sn} {aw at' ac : Option Addr} {cw ct cc : Nat} (h : BxG w W s aw at' ac cw ct cc) (k : Kept W W') : BxG w W' s aw at' ac cw ct cc :=
  ⟨k.cell h.a0, k.cell h.a1, k.cell h.a2, k.cell h.a3, k.cell h.a4, k.cell h.c0, k.cell h.c1, k.cell h.c2, k.cell h.c3, k.cell h.c4, fun o => (k.frozen (p := ⟨w.heap.size + 1, o, none⟩) h.lt).trans (h.fz o), Nat.lt_of_lt_of_le h.lt k.size⟩
theorem bxG_new (w : World) (s : Sn) (aw at' ac : Option Addr) (cw ct cc : Nat) : BxG w ((w.alloc (.cells #[.int .i64 s.fr, .int .i64 s.up, .slice aw s.nw cw, .slice at' s.nt ct, .slice ac s.nc cc] 56)).alloc (.cells #[.int .i64 0, .int .i64 0, .slice none 0 0, .slice none 0 0, .slice none 0 0] 56)) s aw at' ac cw ct cc := by
  have ha : ∀ i v, (#[.int .i64 s.fr, .int .i64 s.up, .slice aw s.nw cw, .slice at' s.nt ct, .slice ac s.nc cc] : Array Value)[i]? = some v → ((w.alloc (.cells #[.int .i64 s.fr, .int .i64 s.up, .slice aw s.nw cw, .slice at' s.nt ct, .slice ac s.nc cc] 56)).alloc (.cells #[.int .i64 0, .int .i64 0, .slice none 0 0, .slice none 0 0, .slice none 0 0] 56)).cell? ⟨w.heap.size, i, none⟩ = some v := fun i v hv => by
    rw [World.cell?_alloc_lt _ _ _ (by simp), World.cell?_alloc_new]; exact hv
  have hb : ∀ i v, (#[Value.int .i64 0, .int .i64 0, .slice none 0 0, .slice none 0 0, .slice none 0 0] : Array Value)[i]? = some v → ((w.alloc (.cells #[.int .i64 s.fr, .int .i64 s.up, .slice aw s.nw cw, .slice at' s.nt ct, .slice ac s.nc cc] 56)).alloc (.cells #[.int .i64 0, .int .i64 0, .slice none 0 0, .slice none 0 0, .slice none 0 0] 56)).cell? ⟨w.heap.size + 1, i, none⟩ = some v := fun i v hv => by
    rw [show w.heap.size + 1 = (w.alloc (.cells #[.int .i64 s.fr, .int .i64 s.up, .slice aw s.nw cw, .slice at' s.nt ct, .slice ac s.nc cc] 56)).heap.size from by simp, World.cell?_alloc_new]; exact hv
  exact ⟨ha 0 _ rfl, ha 1 _ rfl, ha 2 _ rfl, ha 3 _ rfl, ha 4 _ rfl, hb 0 _ rfl, hb 1 _ rfl, hb 2 _ rfl, hb 3 _ rfl, hb 4 _ rfl, fun o => by rw [frozen?_alloc_cells, frozen?_alloc_cells]; simp [World.frozen?], by simp⟩

set_option maxRecDepth 100000 in
set_option maxHeartbeats 4000000 in
theorem cut_none (w : World) (p : Pl) (s : Sn) (k0 : Nat) (hp : Snp w p s) (hR : Right s) (hkm : k0 ≤ s.nw) :
    Calls Try.prog 26 #[.agg #[.int .i64 s.fr, .int .i64 s.up, .slice p.aw s.nw p.cw, .slice p.at' s.nt p.ct, .slice p.ac s.nc p.cc], .int .i64 (s.fr + k0), .int .i64 (s.fr + k0)] w fun e w' =>
      ∃ q : Pl, e = .returned (.tuple #[.agg #[.int .i64 (s.fr + k0), .int .i64 (s.fr + k0), .slice q.aw 0 q.cw, .slice q.at' 0 q.ct, .slice q.ac 0 q.cc], .int .i64 0]) ∧ Snp w' q (cutOf s k0 0) ∧ Kept w w' := by
  obtain ⟨r0, r1, r2, r3, r4, r5⟩ := hR.1
  obtain ⟨aw, cw, A, K, at', ct, ac, cc⟩ := p
  have hcw := hp.ww.1
  have hct := hp.ts.2.1
  have hcc := hp.cs.2.1
  dsimp only at hcw hct hcc ⊢
  have HP := Lib.hid hp
  have HR := Lib.hid hR
  have HRt := Lib.hid (decide_eq_true hR)
  have K1 : Hid (Kept w ((w.alloc (.cells #[.int .i64 s.fr, .int .i64 s.up, .slice aw s.nw cw, .slice at' s.nt ct, .slice ac s.nc cc] 56)).alloc (.cells #[.int .i64 0, .int .i64 0, .slice none 0 0, .slice none 0 0, .slice none 0 0] 56))) := ((Kept.refl w).alloc _).alloc _
  have HB := Lib.hid (bxG_new w s aw at' ac cw ct cc)
  have hwf := Lib.hid (wf_of_le (n := s.fr + (k0 : Int)) (by omega) (by omega))
  have u1 : s.fr + (k0 : Int) - s.fr = k0 := by omega
  have u3 : IntKind.i64.wrap (k0 : Int) = k0 := by rw [IntKind.wrap_i64]; omega
  have v1 : ¬ s.fr + (k0 : Int) < s.fr := by omega
  have v2 : ¬ s.up < s.fr + (k0 : Int) := by omega
  have hm64 : k0 ≤ 64 := by omega
  have hnt : k0 ≤ s.nt := by omega
  have hnc : k0 ≤ s.nc := by omega
  clear hp hR r3 r4 r5
  go_enter Try.func26, Try.ntmps26
  go_wp2_with fail
  refine (right_c _ ⟨aw, cw, A, K, at', ct, ac, cc⟩ s (HP.out.kept K1.out)).mono ?_
  rw [HRt.out]
  rintro e w1 ⟨rfl, hk1⟩
  have K2 := Lib.hid (K1.out.trans hk1)
  have HB1 := Lib.hid (HB.out.kept hk1)
  have a0 := HB1.out.a0
  have a1 := HB1.out.a1
  clear hk1
  go_wp2_with fail
  go_quiet (fail)
  have K3 : Hid (Kept w (w1.drewN nq)) := K2.out.drewN nq
  have HB2 : Hid (BxG w (w1.drewN nq) s aw at' ac cw ct cc) := HB1.out.kept ((Kept.refl _).drewN nq)
  generalize w1.drewN nq = w2 at K3 HB2 ⊢
  have a2 := HB2.out.a2
  have hlt2 := HB2.out.lt
  have hlt3 : w.heap.size < w2.heap.size := by omega
  have w0 : (0 : Int) ≤ (k0 : Int) := by omega
  have w2' : (k0 : Int) ≤ cw := by omega
  clear a0 a1
  go_wp2_with fail
  all_goals
    clear a2 w0 w2'
    have hc : ∀ o, (w2.alloc (.cells #[.int .i64 (s.fr + k0), .int .i64 (s.fr + k0), .slice none 0 0, .slice none 0 0, .slice none 0 0] 56)).cell? ⟨w2.heap.size, o, none⟩ = (#[Value.int .i64 (s.fr + k0), .int .i64 (s.fr + k0), .slice none 0 0, .slice none 0 0, .slice none 0 0] : Array Value)[o]? := by
      intro o; rw [World.cell?_alloc_new]
    have HS : Hid (∀ o v, (#[Value.int .i64 (s.fr + k0), .int .i64 (s.fr + k0), .slice none 0 0, .slice none 0 0, .slice none 0 0] : Array Value)[o]? = some v → (w2.alloc (.cells #[.int .i64 (s.fr + k0), .int .i64 (s.fr + k0), .slice none 0 0, .slice none 0 0, .slice none 0 0] 56)).cell? ⟨w2.heap.size, o, none⟩ = some v) := fun o v h => (hc o).trans h
    have HF : Hid (∀ o, (w2.alloc (.cells #[.int .i64 (s.fr + k0), .int .i64 (s.fr + k0), .slice none 0 0, .slice none 0 0, .slice none 0 0] 56)).frozen? ⟨w2.heap.size, o, none⟩ = false) := fun o => by rw [frozen?_alloc_cells]; simp [World.frozen?]
    have HL : Hid (w2.heap.size < (w2.alloc (.cells #[.int .i64 (s.fr + k0), .int .i64 (s.fr + k0), .slice none 0 0, .slice none 0 0, .slice none 0 0] 56)).heap.size) := by simp [Hid]
    have KA : Hid (Kept w2 (w2.alloc (.cells #[.int .i64 (s.fr + k0), .int .i64 (s.fr + k0), .slice none 0 0, .slice none 0 0, .slice none 0 0] 56))) := (Kept.refl _).alloc _
    clear hc
    generalize w2.alloc (.cells #[.int .i64 (s.fr + k0), .int .i64 (s.fr + k0), .slice none 0 0, .slice none 0 0, .slice none 0 0] 56) = w3 at HS HF HL KA ⊢
    try rw [show k0 - k0 = 0 from by omega]
    go_loopw [48] (fun i wr => i = .int .i64 (0 : Nat) ∧ wr = w3) (fun _ _ => 0)
    case atStart => exact ⟨rfl, rfl⟩
    case round =>
      obtain ⟨rfl, rfl⟩ := hrel
      have a3 := (HB2.out.kept KA.out).a3
      have w0 : (0 : Int) ≤ (k0 : Int) := by omega
      have w2' : (k0 : Int) ≤ ct := by omega
      go_wp2_with fail
      all_goals
        try rw [show k0 - k0 = 0 from by omega]
        refine (clone0_c _ _ _).mono ?_
        rintro e w6 ⟨a', c', rfl, hc3, hk⟩
        have st := hk.cell (HS.out 3 _ rfl)
        have sf := (hk.frozen (p := ⟨w2.heap.size, 3, none⟩) HL.out).trans (HF.out 3)
        have Ka : Hid (Kept w2 (w6.setCell ⟨w2.heap.size, 3, none⟩ (.slice a' 0 c'))) := (KA.out.trans hk).setCell (by simp) _
        have Hs0 := Lib.hid (hk.cell (HS.out 0 _ rfl))
        have Hs1 := Lib.hid (hk.cell (HS.out 1 _ rfl))
        have Hs2 := Lib.hid (hk.cell (HS.out 2 _ rfl))
        have Hs4 := Lib.hid (hk.cell (HS.out 4 _ rfl))
        have Hl6 := Lib.hid (Nat.lt_of_lt_of_le HL.out hk.size)
        have HF6 : Hid (∀ o, w6.frozen? ⟨w2.heap.size, o, none⟩ = false) := fun o => (hk.frozen (p := ⟨w2.heap.size, o, none⟩) HL.out).trans (HF.out o)
        clear hk a3
        have a4 := (HB2.out.kept Ka.out).a4
        clear w2'
        have w2' : (k0 : Int) ≤ cc := by omega
        go_wp2_with fail
        all_goals
          have hset : Hid (∀ o v, o ≠ 3 → w6.cell? ⟨w2.heap.size, o, none⟩ = some v → (w6.setCell ⟨w2.heap.size, 3, none⟩ (.slice a' 0 c')).cell? ⟨w2.heap.size, o, none⟩ = some v) := fun o v ho h => by
            rw [World.cell?_setCell_other _ _ _ _ (addr_ne (.inr (fun e => ho e.symm)))]; exact h
          have Hu0 := Lib.hid (hset.out 0 _ (by decide) Hs0.out)
          have Hu1 := Lib.hid (hset.out 1 _ (by decide) Hs1.out)
          have Hu2 := Lib.hid (hset.out 2 _ (by decide) Hs2.out)
          have Hu4 := Lib.hid (hset.out 4 _ (by decide) Hs4.out)
          have Hu3 : Hid ((w6.setCell ⟨w2.heap.size, 3, none⟩ (.slice a' 0 c')).cell? ⟨w2.heap.size, 3, none⟩ = some (.slice a' 0 c')) := World.cell?_setCell_same _ _ _ st
          have HF7 : Hid (∀ o, (w6.setCell ⟨w2.heap.size, 3, none⟩ (.slice a' 0 c')).frozen? ⟨w2.heap.size, o, none⟩ = false) := fun o => by rw [World.frozen?_setCell]; exact HF6.out o
          have Hl7 : Hid (w2.heap.size < (w6.setCell ⟨w2.heap.size, 3, none⟩ (.slice a' 0 c')).heap.size) := by
            have := Hl6.out; simpa [Hid] using this
          clear st sf hset Hs0 Hs1 Hs2 Hs4 Hl6 HF6 a4
          generalize w6.setCell ⟨w2.heap.size, 3, none⟩ (.slice a' 0 c') = w7 at Ka Hu0 Hu1 Hu2 Hu3 Hu4 HF7 Hl7 ⊢
          try rw [show k0 - k0 = 0 from by omega]
          refine (clone0_c _ _ _).mono ?_
          rintro e w8 ⟨a'', c'', rfl, hc4, hk⟩
          have st := hk.cell Hu4.out
          have sf := (hk.frozen (p := ⟨w2.heap.size, 4, none⟩) Hl7.out).trans (HF7.out 4)
          have Kb : Hid (Kept w2 (w8.setCell ⟨w2.heap.size, 4, none⟩ (.slice a'' 0 c''))) := (Ka.out.trans hk).setCell (by simp) _
          have hset : Hid (∀ o v, o ≠ 4 → w8.cell? ⟨w2.heap.size, o, none⟩ = some v → (w8.setCell ⟨w2.heap.size, 4, none⟩ (.slice a'' 0 c'')).cell? ⟨w2.heap.size, o, none⟩ = some v) := fun o v ho h => by
            rw [World.cell?_setCell_other _ _ _ _ (addr_ne (.inr (fun e => ho e.symm)))]; exact h
          have s0 := hset.out 0 _ (by decide) (hk.cell Hu0.out)
          have s1 := hset.out 1 _ (by decide) (hk.cell Hu1.out)
          have s2 := hset.out 2 _ (by decide) (hk.cell Hu2.out)
          have s3 := hset.out 3 _ (by decide) (hk.cell Hu3.out)
          clear hk hset
          have HB9 := Lib.hid (HB2.out.kept Kb.out)
          have c0 := HB9.out.c0
          have c1 := HB9.out.c1
          have c2 := HB9.out.c2
          have c3 := HB9.out.c3
          have c4 := HB9.out.c4
          have z0 := HB9.out.fz 0
          have z1 := HB9.out.fz 1
          have z2 := HB9.out.fz 2
          have z3 := HB9.out.fz 3
          have z4 := HB9.out.fz 4
          go_wp2_with fail
          generalize w8.setCell ⟨w2.heap.size, 4, none⟩ (.slice a'' 0 c'') = w9 at Kb c0 c1 c2 c3 c4 ⊢
          have hKF := (((((K3.out.trans Kb.out).setCell (p := ⟨w.heap.size + 1, 0, none⟩) (by simp) (.int .i64 (s.fr + k0))).setCell (p := ⟨w.heap.size + 1, 1, none⟩) (by simp) (.int .i64 (s.fr + k0))).setCell (p := ⟨w.heap.size + 1, 2, none⟩) (by simp) (.slice none 0 0)).setCell (p := ⟨w.heap.size + 1, 3, none⟩) (by simp) (.slice a' 0 c')).setCell (p := ⟨w.heap.size + 1, 4, none⟩) (by simp) (.slice a'' 0 c'')
          obtain ⟨q0, q1, q2, q3, q4⟩ := five w9 (w.heap.size + 1) (.int .i64 (s.fr + k0)) (.int .i64 (s.fr + k0)) (.slice none 0 0) (.slice a' 0 c') (.slice a'' 0 c'') _ _ _ _ _ c0 c1 c2 c3 c4
          generalize ((((w9.setCell ⟨w.heap.size + 1, 0, none⟩ (.int .i64 (s.fr + k0))).setCell ⟨w.heap.size + 1, 1, none⟩ (.int .i64 (s.fr + k0))).setCell ⟨w.heap.size + 1, 2, none⟩ (.slice none 0 0)).setCell ⟨w.heap.size + 1, 3, none⟩ (.slice a' 0 c')).setCell ⟨w.heap.size + 1, 4, none⟩ (.slice a'' 0 c'') = WF at hKF q0 q1 q2 q3 q4 ⊢
          have hSn : Snp WF ⟨none, 0, fun _ => none, fun _ => 0, a', c', a'', c''⟩ (cutOf s k0 0) := by
            refine ⟨hwf.out, ?_, ⟨Nat.le_refl _, by simp [maxLen]⟩, fun h => absurd h (Nat.lt_irrefl _), fun i hi => absurd hi (Nat.not_lt_zero _), ⟨⟨?_, fun h => absurd h (Nat.lt_irrefl _)⟩, Nat.zero_le _, hc3⟩, ⟨⟨?_, fun h => absurd h (Nat.lt_irrefl _)⟩, Nat.zero_le _, hc4⟩⟩
            · have := hwf.out
              simpa [cutOf] using this
            all_goals simp [cutOf, maxLen]
          exact bodyPost_ret (v := .tuple #[.agg #[.int .i64 (s.fr + k0), .int .i64 (s.fr + k0), .slice none 0 0, .slice a' 0 c', .slice a'' 0 c''], .int .i64 0]) (by simp [results, Try.results26, go_sem, q0, q1, q2, q3, q4]) rfl ⟨_, rfl, hSn, hKF⟩
end Go.Proofs.Ytcjadneamacilaa.C

/- snap.Cut of some frames. -/
import Derived.Test.YtcjadneamacilaaY
import Derived.Test.YtcjadneamacilaaZ
import Derived.Deep.RegionLaw
import Derived.Deep.AppendLies
namespace Go.Proofs.Ytcjadneamacilaa.C
open Go.RowKit

def cutOf (s : Sn) (k0 m : Nat) : Sn :=
  ⟨s.fr + k0, s.fr + k0 + m, m, fun _ => 36, fun i => s.Z (k0 + i), m, fun i => s.T (k0 + i), m, fun i => s.C (k0 + i)⟩

/-- The boxes that lie before: the snap's, the result's. -/
structure Bx (w W : World) (s : Sn) (b1 o1 b3 o3 b5 o5 cw ct cc : Nat) : Prop where
  a0 : W.cell? ⟨w.heap.size, 0, none⟩ = some (.int .i64 s.fr)
  a1 : W.cell? ⟨w.heap.size, 1, none⟩ = some (.int .i64 s.up)
  a2 : W.cell? ⟨w.heap.size, 2, none⟩ = some (.slice (some ⟨b1, o1, none⟩) s.nw cw)
  a3 : W.cell? ⟨w.heap.size, 3, none⟩ = some (.slice (some ⟨b3, o3, none⟩) s.nt ct)
  a4 : W.cell? ⟨w.heap.size, 4, none⟩ = some (.slice (some ⟨b5, o5, none⟩) s.nc cc)
  c0 : W.cell? ⟨w.heap.size + 1, 0, none⟩ = some (.int .i64 0)
  c1 : W.cell? ⟨w.heap.size + 1, 1, none⟩ = some (.int .i64 0)
  c2 : W.cell? ⟨w.heap.size + 1, 2, none⟩ = some (.slice none 0 0)
  c3 : W.cell? ⟨w.heap.size + 1, 3, none⟩ = some (.slice none 0 0)
  c4 : W.cell? ⟨w.heap.size + 1, 4, none⟩ = some (.slice none 0 0)
  fz : ∀ o, W.frozen? ⟨w.heap.size + 1, o, none⟩ = false
  lt : w.heap.size + 1 < W.heap.size
theorem Bx.kept {w W W' : World} {s : Sn} {b1 o1 b3 o3 b5 o5 cw ct cc : Nat} (h : Bx w W s b1 o1 b3 o3 b5 o5 cw ct cc) (k : Kept W W') : Bx w W' s b1 o1 b3 o3 b5 o5 cw ct cc :=
  ⟨k.cell h.a0, k.cell h.a1, k.cell h.a2, k.cell h.a3, k.cell h.a4, k.cell h.c0, k.cell h.c1, k.cell h.c2, k.cell h.c3, k.cell h.c4, fun o => (k.frozen (p := ⟨w.heap.size + 1, o, none⟩) h.lt).trans (h.fz o), Nat.lt_of_lt_of_le h.lt k.size⟩
theorem bx_new (w : World) (s : Sn) (b1 o1 b3 o3 b5 o5 cw ct cc : Nat) : Bx w ((w.alloc (.cells #[.int .i64 s.fr, .int .i64 s.up, .slice (some ⟨b1, o1, none⟩) s.nw cw, .slice (some ⟨b3, o3, none⟩) s.nt ct, .slice (some ⟨b5, o5, none⟩) s.nc cc] 56)).alloc (.cells #[.int .i64 0, .int .i64 0, .slice none 0 0, .slice none 0 0, .slice none 0 0] 56)) s b1 o1 b3 o3 b5 o5 cw ct cc := by
  have ha : ∀ i v, (#[.int .i64 s.fr, .int .i64 s.up, .slice (some ⟨b1, o1, none⟩) s.nw cw, .slice (some ⟨b3, o3, none⟩) s.nt ct, .slice (some ⟨b5, o5, none⟩) s.nc cc] : Array Value)[i]? = some v → ((w.alloc (.cells #[.int .i64 s.fr, .int .i64 s.up, .slice (some ⟨b1, o1, none⟩) s.nw cw, .slice (some ⟨b3, o3, none⟩) s.nt ct, .slice (some ⟨b5, o5, none⟩) s.nc cc] 56)).alloc (.cells #[.int .i64 0, .int .i64 0, .slice none 0 0, .slice none 0 0, .slice none 0 0] 56)).cell? ⟨w.heap.size, i, none⟩ = some v := fun i v hv => by
    rw [World.cell?_alloc_lt _ _ _ (by simp), World.cell?_alloc_new]; exact hv
  have hb : ∀ i v, (#[Value.int .i64 0, .int .i64 0, .slice none 0 0, .slice none 0 0, .slice none 0 0] : Array Value)[i]? = some v → ((w.alloc (.cells #[.int .i64 s.fr, .int .i64 s.up, .slice (some ⟨b1, o1, none⟩) s.nw cw, .slice (some ⟨b3, o3, none⟩) s.nt ct, .slice (some ⟨b5, o5, none⟩) s.nc cc] 56)).alloc (.cells #[.int .i64 0, .int .i64 0, .slice none 0 0, .slice none 0 0, .slice none 0 0] 56)).cell? ⟨w.heap.size + 1, i, none⟩ = some v := fun i v hv => by
    rw [show w.heap.size + 1 = (w.alloc (.cells #[.int .i64 s.fr, .int .i64 s.up, .slice (some ⟨b1, o1, none⟩) s.nw cw, .slice (some ⟨b3, o3, none⟩) s.nt ct, .slice (some ⟨b5, o5, none⟩) s.nc cc] 56)).heap.size from by simp, World.cell?_alloc_new]; exact hv
  exact ⟨ha 0 _ rfl, ha 1 _ rfl, ha 2 _ rfl, ha 3 _ rfl, ha 4 _ rfl, hb 0 _ rfl, hb 1 _ rfl, hb 2 _ rfl, hb 3 _ rfl, hb 4 _ rfl, fun o => by rw [frozen?_alloc_cells, frozen?_alloc_cells]; simp [World.frozen?], by simp⟩

theorem own_base {w : World} {base base' : Nat} {e : TypeId} {size : Nat} {v : Value} {n : Nat} {xs : List Value} (h : w.ownsRow base e size v n xs) (hb : base' ≤ base) : w.ownsRow base' e size v n xs :=
  ⟨h.1, h.2.imp id (fun ⟨g, cap, cur, e, h1, r⟩ => ⟨g, cap, cur, e, Nat.le_trans hb h1, r⟩)⟩

set_option maxRecDepth 100000 in
set_option maxHeartbeats 4000000 in
theorem cut_some (w : World) (p : Pl) (s : Sn) (k0 m : Nat) (hp : Snp w p s) (hR : Right s) (hm : 0 < m) (hkm : k0 + m ≤ s.nw) :
    Calls Try.prog 26 #[.agg #[.int .i64 s.fr, .int .i64 s.up, .slice p.aw s.nw p.cw, .slice p.at' s.nt p.ct, .slice p.ac s.nc p.cc], .int .i64 (s.fr + k0), .int .i64 (s.fr + k0 + m)] w fun e w' =>
      ∃ q : Pl, e = .returned (.tuple #[.agg #[.int .i64 (s.fr + k0), .int .i64 (s.fr + k0 + m), .slice q.aw m q.cw, .slice q.at' m q.ct, .slice q.ac m q.cc], .int .i64 0]) ∧ Snp w' q (cutOf s k0 m) ∧ Kept w w' := by
  have infoE : (Try.prog.info? 23).map (fun i => (i.zero, i.size, i.bytes)) = some (some (.slice none 0 0), 1, 24) := by kernel_rfl
  obtain ⟨i2, hi2, hz0, hz1, hz2⟩ := info_parts infoE
  clear infoE
  obtain ⟨r0, r1, r2, r3, r4, r5⟩ := hR.1
  obtain ⟨aw, cw, A, K, at', ct, ac, cc⟩ := p
  obtain ⟨b1, o1, ea, -⟩ := hp.wr (by omega)
  obtain ⟨b3, o3, ec, -⟩ := hp.ts.1.2 (by omega)
  obtain ⟨b5, o5, ee, -⟩ := hp.cs.1.2 (by omega)
  have hcw := hp.ww.1
  have hct := hp.ts.2.1
  have hcc := hp.cs.2.1
  dsimp only at ea ec ee hcw hct hcc ⊢
  subst ea ec ee
  have HP := Lib.hid hp
  have HR := Lib.hid hR
  have HRt := Lib.hid (decide_eq_true hR)
  have K1 : Hid (Kept w ((w.alloc (.cells #[.int .i64 s.fr, .int .i64 s.up, .slice (some ⟨b1, o1, none⟩) s.nw cw, .slice (some ⟨b3, o3, none⟩) s.nt ct, .slice (some ⟨b5, o5, none⟩) s.nc cc] 56)).alloc (.cells #[.int .i64 0, .int .i64 0, .slice none 0 0, .slice none 0 0, .slice none 0 0] 56))) := ((Kept.refl w).alloc _).alloc _
  have HB := Lib.hid (bx_new w s b1 o1 b3 o3 b5 o5 cw ct cc)
  have u1 : s.fr + (k0 : Int) - s.fr = k0 := by omega
  have u2 : s.fr + (k0 : Int) + (m : Int) - s.fr = ((k0 + m : Nat) : Int) := by omega
  have u3 : IntKind.i64.wrap (k0 : Int) = k0 := by rw [IntKind.wrap_i64]; omega
  have u4 : IntKind.i64.wrap (((k0 + m : Nat) : Int)) = ((k0 + m : Nat) : Int) := by rw [IntKind.wrap_i64]; omega
  have v1 : ¬ s.fr + (k0 : Int) < s.fr := by omega
  have v2 : ¬ s.up < s.fr + (k0 : Int) + (m : Int) := by omega
  have v3 : ¬ s.fr + (k0 : Int) + (m : Int) < s.fr + (k0 : Int) := by omega
  have hm64 : k0 + m ≤ 64 := by omega
  have hnt : k0 + m ≤ s.nt := by omega
  have hnc : k0 + m ≤ s.nc := by omega
  clear hp hR r3 r4 r5
  go_enter Try.func26, Try.ntmps26
  go_wp2_with fail
  refine (right_c _ ⟨some ⟨b1, o1, none⟩, cw, A, K, some ⟨b3, o3, none⟩, ct, some ⟨b5, o5, none⟩, cc⟩ s (HP.out.kept K1.out)).mono ?_
  rw [HRt.out]
  rintro e w1 ⟨rfl, hk1⟩
  have K2 := Lib.hid (K1.out.trans hk1)
  have HB1 := Lib.hid (HB.out.kept hk1)
  have a0 := HB1.out.a0
  have a1 := HB1.out.a1
  clear hk1
  go_wp2_with fail
  go_quiet (fail)
  have K3 : Hid (Kept w (w1.drewN nq)) := K2.out.drewN nq
  have HB2 : Hid (Bx w (w1.drewN nq) s b1 o1 b3 o3 b5 o5 cw ct cc) := HB1.out.kept ((Kept.refl _).drewN nq)
  generalize w1.drewN nq = w2 at K3 HB2 ⊢
  have a2 := HB2.out.a2
  have hlt2 := HB2.out.lt
  have hlt3 : w.heap.size < w2.heap.size := by omega
  have w0 : (0 : Int) ≤ (k0 : Int) := by omega
  have w1' : (k0 : Int) ≤ (k0 : Int) + m := by omega
  have w2' : (k0 : Int) + m ≤ cw := by omega
  have w3' : ¬ k0 = cw := by omega
  have w4' : ¬ (k0 : Int) = cw := by omega
  have w5' : k0 + m - k0 = m := by omega
  have w6' : (k0 : Int) + m - k0 = m := by omega
  clear a0 a1
  go_wp2_with fail
  clear a2 w0 w1' w2' w3' w4' w5' w6'
  have hS0 : Hid (Rw (w2.alloc (.cells #[.int .i64 (s.fr + k0), .int .i64 (s.fr + k0 + m), .slice none 0 0, .slice none 0 0, .slice none 0 0] 56)) w2.heap.size (s.fr + k0) (s.fr + k0 + m) 0 0 0 (.slice none 0 0) (.slice none 0 0) (.slice none 0 0) (fun _ => 0) (fun _ => 36) (fun i => s.Z (k0 + i)) (fun i => s.T (k0 + i)) (fun i => s.C (k0 + i))) := by
    have hc : ∀ o, (w2.alloc (.cells #[.int .i64 (s.fr + k0), .int .i64 (s.fr + k0 + m), .slice none 0 0, .slice none 0 0, .slice none 0 0] 56)).cell? ⟨w2.heap.size, o, none⟩ = (#[Value.int .i64 (s.fr + k0), .int .i64 (s.fr + k0 + m), .slice none 0 0, .slice none 0 0, .slice none 0 0] : Array Value)[o]? := by
      intro o; rw [World.cell?_alloc_new]
    exact ⟨hc 0, hc 1, hc 2, hc 3, hc 4, fun o => by rw [frozen?_alloc_cells]; simp [World.frozen?], World.ownsRow_nil _ _ _ _, World.ownsRow_nil _ _ _ _, World.ownsRow_nil _ _ _ _, fun i hi => absurd hi (by omega), fun i hi => absurd hi (by omega), fun k hk => by simp [Value.ownBlock] at hk, fun k hk => by simp [Value.ownBlock] at hk⟩
  have KA : Hid (Kept w2 (w2.alloc (.cells #[.int .i64 (s.fr + k0), .int .i64 (s.fr + k0 + m), .slice none 0 0, .slice none 0 0, .slice none 0 0] 56))) := (Kept.refl _).alloc _
  generalize w2.alloc (.cells #[.int .i64 (s.fr + k0), .int .i64 (s.fr + k0 + m), .slice none 0 0, .slice none 0 0, .slice none 0 0] 56) = w3 at hS0 KA ⊢
  rw [show k0 + m - k0 = m from by omega]
  go_loopw [48] (fun i wr => ∃ (j : Nat) (v2 : Value) (G Q : Nat → Nat), j ≤ m ∧ i = .int .i64 j ∧ Hid (Kept w2 wr ∧ Rw wr w2.heap.size (s.fr + k0) (s.fr + k0 + m) j 0 0 v2 (.slice none 0 0) (.slice none 0 0) G Q (fun i => s.Z (k0 + i)) (fun i => s.T (k0 + i)) (fun i => s.C (k0 + i)) ∧ ∀ i, i < j → 36 ≤ Q i ∧ Q i ≤ maxLen)) (fun i _ => m - (intOf i).toNat)
  case atStart => exact ⟨0, _, _, _, by omega, rfl, KA.out, hS0.out, fun i hi => absurd hi (by omega)⟩
  case round =>
    obtain ⟨j, v2, G, Q, hj, rfl, hr⟩ := hrel
    by_cases hlt : j < m
    · have i1 : (j : Int) < m := by omega
      have c1 := (K3.out.trans hr.out.1).cell (HP.out.cellW rfl (k0 + j) (by omega))
      try dsimp only at c1
      rw [(HR.out.2 (k0 + j) (by omega)).1, ← Nat.add_assoc] at c1
      have HRI : Hid (RowI .u64 w (A (k0 + j)) 36 (s.Z (k0 + j))) := by
        have h := (HP.out.rows (k0 + j) (by omega)).1
        rw [(HR.out.2 (k0 + j) (by omega)).1] at h; exact h
      have s2 := hr.out.2.1.s2
      have hSr := hr.out.2.1.lt
      have hj64 : j < 64 := by omega
      go_wp2_with fail
      go_region_law (first
        | (refine step_append_lies _ (by rfl) _ _ _ (by rfl) (w2.heap.size + 1) 23 i2 (.slice none 0 0) 1 24 Try.underlying54 hi2 hz0 hz1 hz2 rfl (by decide) v2 j _ (by rfl) (HR4.out.r2.alloc _) ⟨w4.heap.size, 0, none⟩ 1 1 [.slice (some ⟨g, 0, none⟩) 36 cp] (by rfl) (by rfl) (cell_one_new _ _ _) (by simp [Value.oneCell']) (by omega) (by simp [maxLen]; omega) (by omega) (by have := hS4; simp; omega) (w4.heap.size + 1) (by simp) ?_
           intro g2 cp2 w5 hown hgrow hat hlt5
           have hxo : ∀ v : Value, v.ownBlock = some g → (∀ k, v.ownBlock = some k → k < wr.heap.size) → False := fun v hv hall => by have := hall g hv; have := HX4.out.1; omega
           have HP2 := Lib.hid ((HR4.out.kept ((Kept.refl _).alloc (.cells #[.slice (some ⟨g, 0, none⟩) 36 cp] 23))).push2 g cp (s.Z (k0 + j)) (by have := HX4.out.1; omega) (by have := HX4.out.2.1; simp; omega) (fun k hk => ((Kept.refl w4).alloc _).cell (HX4.out.2.2.2.2 k hk)) (fun hv => hxo _ hv (fun k hk => (hr.out.2.1.r2.lt k hk).2)) (fun hv => by simp [Value.ownBlock] at hv) (fun hv => by simp [Value.ownBlock] at hv) g2 cp2 hown hgrow (hat.imp id (fun e => by simp; omega)))
           have hS5 : w2.heap.size < w5.heap.size := Nat.lt_of_lt_of_le hS4 (by have := hgrow.size; simp at this; omega)
           have hne : some w2.heap.size ≠ v2.ownBlock := fun e => by have := (HR4.out.r2.lt _ e.symm).1; omega
           have st := hgrow.cell (a := ⟨w2.heap.size, 2, none⟩) ((World.cell?_alloc_lt _ _ _ hS4).trans HR4.out.s2) hne
           have sf : w5.frozen? ⟨w2.heap.size, 2, none⟩ = false := by
             have := HP2.out.fz 2
             rwa [World.frozen?_setCell] at this
           have KP : Hid (Kept w2 (w5.setCell ⟨w2.heap.size, 2, none⟩ (.slice (some ⟨g2, 0, none⟩) (j + 1) cp2))) := (Below.grown ((K4.out).alloc (.cells #[.slice (some ⟨g, 0, none⟩) 36 cp] 23)) hgrow (K4.out.alloc _).size (fun k hk => by have := (HR4.out.r2.lt k hk).1; omega)).setCell (by simp) _
           clear hown hgrow hat hlt5 hne hxo)
        | (go_simp; go_at_call 73; refine (cloneW_c _ _ _ _ (HRI.out.kept (K3.out.trans (by first | exact hr.out.1 | exact hr.out.1.drew)))).mono ?_; rintro e w4 ⟨g, cp, rfl, hg1, hg2, hcp1, hcp2, hcl, hk4⟩
           have HX4 : Hid (wr.heap.size ≤ g ∧ g < w4.heap.size ∧ 36 ≤ cp ∧ cp ≤ maxLen ∧ ∀ k, k < 36 → w4.cell? ⟨g, k, none⟩ = some (.int .u64 (s.Z (k0 + j) k))) := ⟨hg1, hg2, hcp1, hcp2, hcl⟩
           have HR4 := Lib.hid ((hr.out.2.1.kept ((Kept.refl _).drew)).kept hk4)
           have K4 := Lib.hid (hr.out.1.drew.trans hk4)
           have hS4 := HR4.out.lt
           have s24 := HR4.out.s2
           clear hk4 hg1 hg2 hcp1 hcp2 hcl))
      all_goals
        go_wp2_with fail
        have HE := HP2.out
        rw [ext_self (fun i => s.Z (k0 + i)) j _ rfl] at HE
        have HQ : Hid (Kept w2 (w5.setCell ⟨w2.heap.size, 2, none⟩ (.slice (some ⟨g2, 0, none⟩) (j + 1) cp2)) ∧ Rw (w5.setCell ⟨w2.heap.size, 2, none⟩ (.slice (some ⟨g2, 0, none⟩) (j + 1) cp2)) w2.heap.size (s.fr + k0) (s.fr + k0 + m) (j + 1) 0 0 (.slice (some ⟨g2, 0, none⟩) (j + 1) cp2) (.slice none 0 0) (.slice none 0 0) (ext G j g) (ext Q j cp) (fun i => s.Z (k0 + i)) (fun i => s.T (k0 + i)) (fun i => s.C (k0 + i)) ∧ ∀ i, i < j + 1 → 36 ≤ ext Q j cp i ∧ ext Q j cp i ≤ maxLen) := by
          refine ⟨KP.out, HE, fun i hi => ?_⟩
          by_cases e : i = j
          · subst e; rw [ext_at]; exact ⟨HX4.out.2.2.1, HX4.out.2.2.2.1⟩
          · rw [ext_lt _ _ _ _ (by omega)]; exact hr.out.2.2 i (by omega)
        clear HE
        go_roundw
        case rel => first | exact ⟨j + 1, _, _, _, by omega, by go_num, HQ.out⟩ | ((repeat apply Exists.intro); exact ⟨⟨j + 1, _, _, _, by omega, by go_num, HQ.out⟩, rfl⟩)
        case measure => simp [intOf]; omega
    · obtain rfl : m = j := by omega
      obtain ⟨hkr, hRw, hQ⟩ := hr.out
      have KR := Lib.hid hkr
      have HRW := Lib.hid hRw
      have HQ := Lib.hid hQ
      have HBr := Lib.hid (HB2.out.kept hkr)
      have a3 := HBr.out.a3
      clear hkr hRw hQ hr
      have w0 : (0 : Int) ≤ (k0 : Int) := by omega
      have w1' : (k0 : Int) ≤ (k0 : Int) + m := by omega
      have w2' : (k0 : Int) + m ≤ ct := by omega
      have w3' : ¬ k0 = ct := by omega
      have w4' : ¬ (k0 : Int) = ct := by omega
      have w5' : k0 + m - k0 = m := by omega
      have w6' : (k0 : Int) + m - k0 = m := by omega
      go_wp2_with fail
      rw [show k0 + m - k0 = m from by omega]
      refine (cloneI_c _ b3 (o3 + k0) m (ct - k0) (fun i => s.T (k0 + i)) (by omega) (fun i hi => by
        have h := (K3.out.trans KR.out).cell (HP.out.cellT rfl (k0 + i) (by omega))
        rw [← Nat.add_assoc] at h; exact h)).mono ?_
      rintro e w6 ⟨v, rfl, ho, hk⟩
      obtain ⟨g3, cp3, rfl⟩ : ∃ g cp, v = .slice (some ⟨g, 0, none⟩) m cp := by
        obtain ⟨-, hh | ⟨g, cap, cur, rfl, _⟩⟩ := ho
        · exact absurd hh.2 (by omega)
        · exact ⟨_, _, rfl⟩
      have hg := (ho.lt g3 rfl).1
      have HRa := Lib.hid (HRW.out.kept hk)
      have hSl := HRW.out.lt
      have HPu := Lib.hid (HRa.out.put3 (v' := .slice (some ⟨g3, 0, none⟩) m cp3) (T' := fun i => s.T (k0 + i)) (own_base ho (by omega)) (fun k h1 h2 => by have := (HRW.out.r2.lt k h2).2; have : g3 = k := Option.some.inj h1; omega) (fun k h1 h2 => by simp [Value.ownBlock] at h2) (fun i hi h1 => by have := HRW.out.glt i hi; have : g3 = _ := Option.some.inj h1; omega))
      have KRn : Hid (Kept w2 (w6.setCell ⟨w2.heap.size, 3, none⟩ (.slice (some ⟨g3, 0, none⟩) m cp3))) := (KR.out.trans hk).setCell (by simp) _
      have st := HRa.out.s3
      have sf := HRa.out.fz 3
      clear ho hk hg a3 w2' w3' w4' HBr
      have a4 := (HB2.out.kept KRn.out).a4
      have w2' : (k0 : Int) + m ≤ cc := by omega
      have w3' : ¬ k0 = cc := by omega
      have w4' : ¬ (k0 : Int) = cc := by omega
      go_wp2_with fail
      generalize w6.setCell ⟨w2.heap.size, 3, none⟩ (.slice (some ⟨g3, 0, none⟩) m cp3) = w7 at HPu KRn a4 ⊢
      clear HRa st sf hSl a4
      have HRW7 := HPu
      have KR7 := KRn
      clear HPu KRn
      rw [show k0 + m - k0 = m from by omega]
      refine (cloneI_c _ b5 (o5 + k0) m (cc - k0) (fun i => s.C (k0 + i)) (by omega) (fun i hi => by
        have h := (K3.out.trans KR7.out).cell (HP.out.cellC rfl (k0 + i) (by omega))
        rw [← Nat.add_assoc] at h; exact h)).mono ?_
      rintro e w8 ⟨v, rfl, ho, hk⟩
      obtain ⟨g4, cp4, rfl⟩ : ∃ g cp, v = .slice (some ⟨g, 0, none⟩) m cp := by
        obtain ⟨-, hh | ⟨g, cap, cur, rfl, _⟩⟩ := ho
        · exact absurd hh.2 (by omega)
        · exact ⟨_, _, rfl⟩
      have hg := (ho.lt g4 rfl).1
      have HRa := Lib.hid (HRW7.out.kept hk)
      have hSl := HRW7.out.lt
      have HPu := Lib.hid (HRa.out.put4 (v' := .slice (some ⟨g4, 0, none⟩) m cp4) (T' := fun i => s.C (k0 + i)) (own_base ho (by omega)) (fun k h1 h2 => by have := (HRW7.out.r2.lt k h2).2; have : g4 = k := Option.some.inj h1; omega) (fun k h1 h2 => by have := (HRW7.out.r3.lt k h2).2; have : g4 = k := Option.some.inj h1; omega) (fun i hi h1 => by have := HRW7.out.glt i hi; have : g4 = _ := Option.some.inj h1; omega))
      have KRn : Hid (Kept w2 (w8.setCell ⟨w2.heap.size, 4, none⟩ (.slice (some ⟨g4, 0, none⟩) m cp4))) := (KR7.out.trans hk).setCell (by simp) _
      have st := HRa.out.s4
      have sf := HRa.out.fz 4
      clear ho hk hg
      have HB9 := Lib.hid (HB2.out.kept KRn.out)
      have c0 := HB9.out.c0
      have c1 := HB9.out.c1
      have c2 := HB9.out.c2
      have c3 := HB9.out.c3
      have c4 := HB9.out.c4
      have z0 := HB9.out.fz 0
      have z1 := HB9.out.fz 1
      have z2 := HB9.out.fz 2
      have z3 := HB9.out.fz 3
      have z4 := HB9.out.fz 4
      have s0 := HPu.out.s0
      have s1 := HPu.out.s1
      have s2 := HPu.out.s2
      have s3 := HPu.out.s3
      have s4 := HPu.out.s4
      have HWZ : Hid (∀ i k, i < m → k < 36 → (Lit.int .u64 (s.Z (k0 + i) k)).wf = true) := fun i k hi hk => by
        have h := (HP.out.rows (k0 + i) (by omega)).1
        rw [(HR.out.2 (k0 + i) (by omega)).1] at h
        obtain ⟨_, _, _, hc⟩ := h.2 (by omega)
        exact (hc k hk).2
      have HWT : Hid (∀ i, i < m → (Lit.int .i64 (s.T (k0 + i))).wf = true) := fun i hi => by have := (HR.out.2 (k0 + i) (by omega)).2.1; exact wf_of_le (by omega) (by omega)
      have HWC : Hid (∀ i, i < m → (Lit.int .i64 (s.C (k0 + i))).wf = true) := fun i hi => by have := (HR.out.2 (k0 + i) (by omega)).2.2; exact wf_of_le (by omega) (by omega)
      obtain ⟨p0, e20, e30, -, -⟩ := snp_of (by omega) HPu.out (wf_of_le (by omega) (by omega)) (wf_of_le (by omega) (by omega)) HWZ.out HWT.out HWC.out HQ.out
      rw [e20] at s2
      rw [e30] at s3
      have hRW := HPu.out
      rw [e20, e30] at hRW
      have HRWf := Lib.hid hRW
      clear hRW HPu e20 e30
      have hlt4 : w.heap.size + 1 < w2.heap.size := hlt2
      go_wp2_with fail
      generalize w8.setCell ⟨w2.heap.size, 4, none⟩ (.slice (some ⟨g4, 0, none⟩) m cp4) = w9 at HRWf KRn c0 c1 c2 c3 c4 ⊢
      have hRf := ((((HRWf.out.low (w.heap.size + 1) 0 hlt4 (.int .i64 (s.fr + k0))).low (w.heap.size + 1) 1 hlt4 (.int .i64 (s.fr + k0 + m))).low (w.heap.size + 1) 2 hlt4 (.slice p0.aw m p0.cw)).low (w.heap.size + 1) 3 hlt4 (.slice p0.at' m p0.ct)).low (w.heap.size + 1) 4 hlt4 (.slice (some ⟨g4, 0, none⟩) m cp4)
      obtain ⟨q, e2, e3, e4, hSn⟩ := snp_of (by omega) hRf (wf_of_le (by omega) (by omega)) (wf_of_le (by omega) (by omega)) HWZ.out HWT.out HWC.out HQ.out
      injection e2 with e2a _ e2b
      injection e3 with e3a _ e3b
      injection e4 with e4a _ e4b
      have hKF := (((((K3.out.trans KRn.out).setCell (p := ⟨w.heap.size + 1, 0, none⟩) (by simp) (.int .i64 (s.fr + k0))).setCell (p := ⟨w.heap.size + 1, 1, none⟩) (by simp) (.int .i64 (s.fr + k0 + m))).setCell (p := ⟨w.heap.size + 1, 2, none⟩) (by simp) (.slice p0.aw m p0.cw)).setCell (p := ⟨w.heap.size + 1, 3, none⟩) (by simp) (.slice p0.at' m p0.ct)).setCell (p := ⟨w.heap.size + 1, 4, none⟩) (by simp) (.slice (some ⟨g4, 0, none⟩) m cp4)
      obtain ⟨q0, q1, q2, q3, q4⟩ := five w9 (w.heap.size + 1) (.int .i64 (s.fr + k0)) (.int .i64 (s.fr + k0 + m)) (.slice p0.aw m p0.cw) (.slice p0.at' m p0.ct) (.slice (some ⟨g4, 0, none⟩) m cp4) _ _ _ _ _ c0 c1 c2 c3 c4
      generalize ((((w9.setCell ⟨w.heap.size + 1, 0, none⟩ (.int .i64 (s.fr + k0))).setCell ⟨w.heap.size + 1, 1, none⟩ (.int .i64 (s.fr + k0 + m))).setCell ⟨w.heap.size + 1, 2, none⟩ (.slice p0.aw m p0.cw)).setCell ⟨w.heap.size + 1, 3, none⟩ (.slice p0.at' m p0.ct)).setCell ⟨w.heap.size + 1, 4, none⟩ (.slice (some ⟨g4, 0, none⟩) m cp4) = WF at hKF hSn q0 q1 q2 q3 q4 ⊢
      have hSn' : Snp WF q (cutOf s k0 m) := by
        exact hSn
      clear hSn
      exact bodyPost_ret (v := .tuple #[.agg #[.int .i64 (s.fr + k0), .int .i64 (s.fr + k0 + m), .slice p0.aw m p0.cw, .slice p0.at' m p0.ct, .slice (some ⟨g4, 0, none⟩) m cp4], .int .i64 0]) (by simp [results, Try.results26, go_sem, q0, q1, q2, q3, q4]) rfl ⟨q, by rw [e2a, e2b, e3a, e3b, e4a, e4b], hSn', hKF⟩
end Go.Proofs.Ytcjadneamacilaa.C

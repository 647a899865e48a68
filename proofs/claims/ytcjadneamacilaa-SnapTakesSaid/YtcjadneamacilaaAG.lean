/- palanquinref39: Cut. -/
import Derived.Test.YtcjadneamacilaaAA
import Derived.Test.YtcjadneamacilaaV0
import Derived.StillTailTactics
namespace Go.Proofs.Ytcjadneamacilaa.C
open Go.RowKit

theorem rowI_cut {k : IntKind} {w : World} {a : Option Addr} {n : Nat} {z : Nat → Int} (h : RowI k w a n z) (c k0 m : Nat) (hn : n ≤ c) (hkm : k0 + m ≤ n) : RowI k w (if c = k0 then a else a.map (·.add (k0 * 1))) m (fun i => z (k0 + i)) := by
  refine ⟨by have := h.1; omega, fun hm => ?_⟩
  obtain ⟨b, o, rfl, hc⟩ := h.2 (by omega)
  rw [if_neg (by omega)]
  refine ⟨b, o + k0, by simp [Addr.add], fun i hi => ?_⟩
  have := hc (k0 + i) (by omega)
  rw [← Nat.add_assoc] at this
  exact this
theorem snp_cut {w : World} {aw : Option Addr} {cw : Nat} {A : Nat → Option Addr} {K : Nat → Nat} {at' : Option Addr} {ct : Nat} {ac : Option Addr} {cc : Nat} {s : Sn} (h : Snp w ⟨aw, cw, A, K, at', ct, ac, cc⟩ s) (hR : Right s) (k0 m : Nat) (hkm : k0 + m ≤ s.nw) :
    Snp w ⟨if cw = k0 then aw else aw.map (·.add (k0 * 1)), cw - k0, fun i => A (k0 + i), fun i => K (k0 + i), if ct = k0 then at' else at'.map (·.add (k0 * 1)), ct - k0, if cc = k0 then ac else ac.map (·.add (k0 * 1)), cc - k0⟩ (cutOf s k0 m) := by
  obtain ⟨⟨r0, r1, r2, r3, r4, r5⟩, hr⟩ := hR
  have h1 := h.ww
  have h2 := h.ts.2
  have h3 := h.cs.2
  dsimp only at h1 h2 h3
  refine ⟨wf_of_le (by show 0 ≤ s.fr + (k0 : Int); omega) (by show s.fr + (k0 : Int) ≤ _; omega), wf_of_le (by show 0 ≤ s.fr + (k0 : Int) + m; omega) (by show s.fr + (k0 : Int) + m ≤ _; omega), ⟨by show m ≤ cw - k0; omega, by show cw - k0 ≤ _; omega⟩, fun hm => ?_, fun i hi => ?_, ⟨rowI_cut h.ts.1 _ k0 m h2.1 (by omega), by show m ≤ ct - k0; omega, by show ct - k0 ≤ _; omega⟩, ⟨rowI_cut h.cs.1 _ k0 m h3.1 (by omega), by show m ≤ cc - k0; omega, by show cc - k0 ≤ _; omega⟩⟩
  · obtain ⟨b, o, e, hc⟩ := h.wr (by have : 0 < m := hm; omega)
    dsimp only at e
    subst e
    refine ⟨b, o + k0, ?_, fun i hi => ?_⟩
    · show (if cw = k0 then _ else _) = _
      rw [if_neg (by have : 0 < m := hm; omega)]; simp [Addr.add]
    · have hi' : i < m := hi
      have := hc (k0 + i) (by omega)
      rw [(hr (k0 + i) (by omega)).1, ← Nat.add_assoc] at this
      exact this
  · have hi' : i < m := hi
    have := h.rows (k0 + i) (by omega)
    rw [(hr (k0 + i) (by omega)).1] at this
    exact this

set_option maxRecDepth 100000 in
set_option maxHeartbeats 4000000 in
theorem rcut_ok (w : World) (p : Pl) (s : Sn) (k0 m : Nat) (hp : Snp w p s) (hR : Right s) (hkm : k0 + m ≤ s.nw) :
    Calls Try.prog 30 #[.agg #[.int .i64 s.fr, .int .i64 s.up, .slice p.aw s.nw p.cw, .slice p.at' s.nt p.ct, .slice p.ac s.nc p.cc], .int .i64 (s.fr + k0), .int .i64 (s.fr + k0 + m)] w fun e w' =>
      ∃ q : Pl, e = .returned (.tuple #[.agg #[.int .i64 (s.fr + k0), .int .i64 (s.fr + k0 + m), .slice q.aw m q.cw, .slice q.at' m q.ct, .slice q.ac m q.cc], .int .i64 0]) ∧ Snp w' q (cutOf s k0 m) ∧ Kept w w' := by
  obtain ⟨r0, r1, r2, r3, r4, r5⟩ := hR.1
  obtain ⟨aw, cw, A, K, at', ct, ac, cc⟩ := p
  have hcw := hp.ww.1
  have hct := hp.ts.2.1
  have hcc := hp.cs.2.1
  dsimp only at hcw hct hcc ⊢
  have HP := Lib.hid hp
  have HR := Lib.hid hR
  have HRt := Lib.hid (decide_eq_true hR)
  have K1 : Hid (Kept w ((w.alloc (.cells #[.int .i64 s.fr, .int .i64 s.up, .slice aw s.nw cw, .slice at' s.nt ct, .slice ac s.nc cc] 56)).alloc (.cells #[.int .i64 0, .int .i64 0, .slice none 0 0, .slice none 0 0, .slice none 0 0] 56))) := ((Kept.refl w).alloc _).alloc _
  have HB := Lib.hid (bxG_new w s aw at' ac cw ct cc)
  have u1 : s.fr + (k0 : Int) - s.fr = k0 := by omega
  have u2 : s.fr + (k0 : Int) + (m : Int) - s.fr = ((k0 + m : Nat) : Int) := by omega
  have u3 : IntKind.i64.wrap (k0 : Int) = k0 := by rw [IntKind.wrap_i64]; omega
  have u4 : IntKind.i64.wrap (((k0 + m : Nat) : Int)) = ((k0 + m : Nat) : Int) := by rw [IntKind.wrap_i64]; omega
  have u5 : IntKind.i64.wrap ((k0 : Int) + (m : Int)) = (k0 : Int) + m := by rw [IntKind.wrap_i64]; omega
  have v1 : ¬ s.fr + (k0 : Int) < s.fr := by omega
  have v2 : ¬ s.up < s.fr + (k0 : Int) + (m : Int) := by omega
  have v3 : ¬ s.fr + (k0 : Int) + (m : Int) < s.fr + (k0 : Int) := by omega
  have hm64 : k0 + m ≤ 64 := by omega
  have w0 : (0 : Int) ≤ (k0 : Int) := by omega
  have w1' : (k0 : Int) ≤ (k0 : Int) + m := by omega
  have w2' : (k0 : Int) + m ≤ cw := by omega
  have w3' : (k0 : Int) + m ≤ ct := by omega
  have w4' : (k0 : Int) + m ≤ cc := by omega
  have w5' : k0 + m - k0 = m := by omega
  have w6' : (k0 : Int) + m - k0 = m := by omega
  clear hp hR r3 r4 r5
  go_enter Try.func30, Try.ntmps30
  go_wp2_with fail
  refine (rright_c _ ⟨aw, cw, A, K, at', ct, ac, cc⟩ s (HP.out.kept K1.out)).mono ?_
  rw [HRt.out]
  rintro e w1 ⟨rfl, hk1⟩
  have K2 := Lib.hid (K1.out.trans hk1)
  have HB1 := Lib.hid (HB.out.kept hk1)
  clear hk1
  have a0 := HB1.out.a0
  have a1 := HB1.out.a1
  have a2 := HB1.out.a2
  have a3 := HB1.out.a3
  have a4 := HB1.out.a4
  go_wp2_with fail
  go_still_tail 36, (by kernel_rfl)
  change wpList _ _ _ _ _ w1.drew
  have K3 : Hid (Kept w w1.drew) := K2.out.drew
  have HB2 : Hid (BxG w w1.drew s aw at' ac cw ct cc) := HB1.out.kept ((Kept.refl w1).drew)
  generalize w1.drew = w2 at K3 HB2 ⊢
  have c0 := HB2.out.c0
  have c1 := HB2.out.c1
  have c2 := HB2.out.c2
  have c3 := HB2.out.c3
  have c4 := HB2.out.c4
  have z0 := HB2.out.fz 0
  have z1 := HB2.out.fz 1
  have z2 := HB2.out.fz 2
  have z3 := HB2.out.fz 3
  have z4 := HB2.out.fz 4
  clear a0 a1 a2 a3 a4
  go_wp2_with fail
  case inl.inl.inl =>
    have hKF : Kept w (((((w2.setCell ⟨w.heap.size + 1, 0, none⟩ (.int .i64 (s.fr + k0))).setCell ⟨w.heap.size + 1, 1, none⟩ (.int .i64 (s.fr + k0 + m))).setCell ⟨w.heap.size + 1, 2, none⟩ (.slice aw m 0)).setCell ⟨w.heap.size + 1, 3, none⟩ (.slice at' m 0)).setCell ⟨w.heap.size + 1, 4, none⟩ (.slice ac m 0)) := (((((K3.out.setCell (p := ⟨w.heap.size + 1, 0, none⟩) (by simp) _).setCell (p := ⟨w.heap.size + 1, 1, none⟩) (by simp) _).setCell (p := ⟨w.heap.size + 1, 2, none⟩) (by simp) _).setCell (p := ⟨w.heap.size + 1, 3, none⟩) (by simp) _).setCell (p := ⟨w.heap.size + 1, 4, none⟩) (by simp) _)
    obtain ⟨q0, q1, q2, q3, q4⟩ := five w2 (w.heap.size + 1) (.int .i64 (s.fr + k0)) (.int .i64 (s.fr + k0 + m)) (.slice aw m 0) (.slice at' m 0) (.slice ac m 0) _ _ _ _ _ c0 c1 c2 c3 c4
    generalize (((((w2.setCell ⟨w.heap.size + 1, 0, none⟩ (.int .i64 (s.fr + k0))).setCell ⟨w.heap.size + 1, 1, none⟩ (.int .i64 (s.fr + k0 + m))).setCell ⟨w.heap.size + 1, 2, none⟩ (.slice aw m 0)).setCell ⟨w.heap.size + 1, 3, none⟩ (.slice at' m 0)).setCell ⟨w.heap.size + 1, 4, none⟩ (.slice ac m 0)) = WF at hKF q0 q1 q2 q3 q4 ⊢
    exact bodyPost_ret (v := .tuple #[.agg #[(.int .i64 (s.fr + k0)), (.int .i64 (s.fr + k0 + m)), (.slice aw m 0), (.slice at' m 0), (.slice ac m 0)], .int .i64 0]) (by simp [results, Try.results30, go_sem, q0, q1, q2, q3, q4]) rfl ⟨⟨aw, 0, fun i => A (k0 + i), fun i => K (k0 + i), at', 0, ac, 0⟩, rfl, by have hz := snp_cut (HP.out.kept hKF) HR.out k0 m hkm; simpa [*] using hz, hKF⟩
  case inr.inl.inl =>
    have hKF : Kept w (((((w2.setCell ⟨w.heap.size + 1, 0, none⟩ (.int .i64 (s.fr + k0))).setCell ⟨w.heap.size + 1, 1, none⟩ (.int .i64 (s.fr + k0 + m))).setCell ⟨w.heap.size + 1, 2, none⟩ (.slice (aw.map (fun x => x.add k0)) m (cw - k0))).setCell ⟨w.heap.size + 1, 3, none⟩ (.slice at' m 0)).setCell ⟨w.heap.size + 1, 4, none⟩ (.slice ac m 0)) := (((((K3.out.setCell (p := ⟨w.heap.size + 1, 0, none⟩) (by simp) _).setCell (p := ⟨w.heap.size + 1, 1, none⟩) (by simp) _).setCell (p := ⟨w.heap.size + 1, 2, none⟩) (by simp) _).setCell (p := ⟨w.heap.size + 1, 3, none⟩) (by simp) _).setCell (p := ⟨w.heap.size + 1, 4, none⟩) (by simp) _)
    obtain ⟨q0, q1, q2, q3, q4⟩ := five w2 (w.heap.size + 1) (.int .i64 (s.fr + k0)) (.int .i64 (s.fr + k0 + m)) (.slice (aw.map (fun x => x.add k0)) m (cw - k0)) (.slice at' m 0) (.slice ac m 0) _ _ _ _ _ c0 c1 c2 c3 c4
    generalize (((((w2.setCell ⟨w.heap.size + 1, 0, none⟩ (.int .i64 (s.fr + k0))).setCell ⟨w.heap.size + 1, 1, none⟩ (.int .i64 (s.fr + k0 + m))).setCell ⟨w.heap.size + 1, 2, none⟩ (.slice (aw.map (fun x => x.add k0)) m (cw - k0))).setCell ⟨w.heap.size + 1, 3, none⟩ (.slice at' m 0)).setCell ⟨w.heap.size + 1, 4, none⟩ (.slice ac m 0)) = WF at hKF q0 q1 q2 q3 q4 ⊢
    exact bodyPost_ret (v := .tuple #[.agg #[(.int .i64 (s.fr + k0)), (.int .i64 (s.fr + k0 + m)), (.slice (aw.map (fun x => x.add k0)) m (cw - k0)), (.slice at' m 0), (.slice ac m 0)], .int .i64 0]) (by simp [results, Try.results30, go_sem, q0, q1, q2, q3, q4]) rfl ⟨⟨(aw.map (fun x => x.add k0)), (cw - k0), fun i => A (k0 + i), fun i => K (k0 + i), at', 0, ac, 0⟩, rfl, by have hz := snp_cut (HP.out.kept hKF) HR.out k0 m hkm; simpa [*] using hz, hKF⟩
  case inl.inr.inl =>
    have hKF : Kept w (((((w2.setCell ⟨w.heap.size + 1, 0, none⟩ (.int .i64 (s.fr + k0))).setCell ⟨w.heap.size + 1, 1, none⟩ (.int .i64 (s.fr + k0 + m))).setCell ⟨w.heap.size + 1, 2, none⟩ (.slice aw m 0)).setCell ⟨w.heap.size + 1, 3, none⟩ (.slice (at'.map (fun x => x.add k0)) m (ct - k0))).setCell ⟨w.heap.size + 1, 4, none⟩ (.slice ac m 0)) := (((((K3.out.setCell (p := ⟨w.heap.size + 1, 0, none⟩) (by simp) _).setCell (p := ⟨w.heap.size + 1, 1, none⟩) (by simp) _).setCell (p := ⟨w.heap.size + 1, 2, none⟩) (by simp) _).setCell (p := ⟨w.heap.size + 1, 3, none⟩) (by simp) _).setCell (p := ⟨w.heap.size + 1, 4, none⟩) (by simp) _)
    obtain ⟨q0, q1, q2, q3, q4⟩ := five w2 (w.heap.size + 1) (.int .i64 (s.fr + k0)) (.int .i64 (s.fr + k0 + m)) (.slice aw m 0) (.slice (at'.map (fun x => x.add k0)) m (ct - k0)) (.slice ac m 0) _ _ _ _ _ c0 c1 c2 c3 c4
    generalize (((((w2.setCell ⟨w.heap.size + 1, 0, none⟩ (.int .i64 (s.fr + k0))).setCell ⟨w.heap.size + 1, 1, none⟩ (.int .i64 (s.fr + k0 + m))).setCell ⟨w.heap.size + 1, 2, none⟩ (.slice aw m 0)).setCell ⟨w.heap.size + 1, 3, none⟩ (.slice (at'.map (fun x => x.add k0)) m (ct - k0))).setCell ⟨w.heap.size + 1, 4, none⟩ (.slice ac m 0)) = WF at hKF q0 q1 q2 q3 q4 ⊢
    exact bodyPost_ret (v := .tuple #[.agg #[(.int .i64 (s.fr + k0)), (.int .i64 (s.fr + k0 + m)), (.slice aw m 0), (.slice (at'.map (fun x => x.add k0)) m (ct - k0)), (.slice ac m 0)], .int .i64 0]) (by simp [results, Try.results30, go_sem, q0, q1, q2, q3, q4]) rfl ⟨⟨aw, 0, fun i => A (k0 + i), fun i => K (k0 + i), (at'.map (fun x => x.add k0)), (ct - k0), ac, 0⟩, rfl, by have hz := snp_cut (HP.out.kept hKF) HR.out k0 m hkm; simpa [*] using hz, hKF⟩
  case inr.inr.inl =>
    have hKF : Kept w (((((w2.setCell ⟨w.heap.size + 1, 0, none⟩ (.int .i64 (s.fr + k0))).setCell ⟨w.heap.size + 1, 1, none⟩ (.int .i64 (s.fr + k0 + m))).setCell ⟨w.heap.size + 1, 2, none⟩ (.slice (aw.map (fun x => x.add k0)) m (cw - k0))).setCell ⟨w.heap.size + 1, 3, none⟩ (.slice (at'.map (fun x => x.add k0)) m (ct - k0))).setCell ⟨w.heap.size + 1, 4, none⟩ (.slice ac m 0)) := (((((K3.out.setCell (p := ⟨w.heap.size + 1, 0, none⟩) (by simp) _).setCell (p := ⟨w.heap.size + 1, 1, none⟩) (by simp) _).setCell (p := ⟨w.heap.size + 1, 2, none⟩) (by simp) _).setCell (p := ⟨w.heap.size + 1, 3, none⟩) (by simp) _).setCell (p := ⟨w.heap.size + 1, 4, none⟩) (by simp) _)
    obtain ⟨q0, q1, q2, q3, q4⟩ := five w2 (w.heap.size + 1) (.int .i64 (s.fr + k0)) (.int .i64 (s.fr + k0 + m)) (.slice (aw.map (fun x => x.add k0)) m (cw - k0)) (.slice (at'.map (fun x => x.add k0)) m (ct - k0)) (.slice ac m 0) _ _ _ _ _ c0 c1 c2 c3 c4
    generalize (((((w2.setCell ⟨w.heap.size + 1, 0, none⟩ (.int .i64 (s.fr + k0))).setCell ⟨w.heap.size + 1, 1, none⟩ (.int .i64 (s.fr + k0 + m))).setCell ⟨w.heap.size + 1, 2, none⟩ (.slice (aw.map (fun x => x.add k0)) m (cw - k0))).setCell ⟨w.heap.size + 1, 3, none⟩ (.slice (at'.map (fun x => x.add k0)) m (ct - k0))).setCell ⟨w.heap.size + 1, 4, none⟩ (.slice ac m 0)) = WF at hKF q0 q1 q2 q3 q4 ⊢
    exact bodyPost_ret (v := .tuple #[.agg #[(.int .i64 (s.fr + k0)), (.int .i64 (s.fr + k0 + m)), (.slice (aw.map (fun x => x.add k0)) m (cw - k0)), (.slice (at'.map (fun x => x.add k0)) m (ct - k0)), (.slice ac m 0)], .int .i64 0]) (by simp [results, Try.results30, go_sem, q0, q1, q2, q3, q4]) rfl ⟨⟨(aw.map (fun x => x.add k0)), (cw - k0), fun i => A (k0 + i), fun i => K (k0 + i), (at'.map (fun x => x.add k0)), (ct - k0), ac, 0⟩, rfl, by have hz := snp_cut (HP.out.kept hKF) HR.out k0 m hkm; simpa [*] using hz, hKF⟩
  case inl.inl.inr =>
    have hKF : Kept w (((((w2.setCell ⟨w.heap.size + 1, 0, none⟩ (.int .i64 (s.fr + k0))).setCell ⟨w.heap.size + 1, 1, none⟩ (.int .i64 (s.fr + k0 + m))).setCell ⟨w.heap.size + 1, 2, none⟩ (.slice aw m 0)).setCell ⟨w.heap.size + 1, 3, none⟩ (.slice at' m 0)).setCell ⟨w.heap.size + 1, 4, none⟩ (.slice (ac.map (fun x => x.add k0)) m (cc - k0))) := (((((K3.out.setCell (p := ⟨w.heap.size + 1, 0, none⟩) (by simp) _).setCell (p := ⟨w.heap.size + 1, 1, none⟩) (by simp) _).setCell (p := ⟨w.heap.size + 1, 2, none⟩) (by simp) _).setCell (p := ⟨w.heap.size + 1, 3, none⟩) (by simp) _).setCell (p := ⟨w.heap.size + 1, 4, none⟩) (by simp) _)
    obtain ⟨q0, q1, q2, q3, q4⟩ := five w2 (w.heap.size + 1) (.int .i64 (s.fr + k0)) (.int .i64 (s.fr + k0 + m)) (.slice aw m 0) (.slice at' m 0) (.slice (ac.map (fun x => x.add k0)) m (cc - k0)) _ _ _ _ _ c0 c1 c2 c3 c4
    generalize (((((w2.setCell ⟨w.heap.size + 1, 0, none⟩ (.int .i64 (s.fr + k0))).setCell ⟨w.heap.size + 1, 1, none⟩ (.int .i64 (s.fr + k0 + m))).setCell ⟨w.heap.size + 1, 2, none⟩ (.slice aw m 0)).setCell ⟨w.heap.size + 1, 3, none⟩ (.slice at' m 0)).setCell ⟨w.heap.size + 1, 4, none⟩ (.slice (ac.map (fun x => x.add k0)) m (cc - k0))) = WF at hKF q0 q1 q2 q3 q4 ⊢
    exact bodyPost_ret (v := .tuple #[.agg #[(.int .i64 (s.fr + k0)), (.int .i64 (s.fr + k0 + m)), (.slice aw m 0), (.slice at' m 0), (.slice (ac.map (fun x => x.add k0)) m (cc - k0))], .int .i64 0]) (by simp [results, Try.results30, go_sem, q0, q1, q2, q3, q4]) rfl ⟨⟨aw, 0, fun i => A (k0 + i), fun i => K (k0 + i), at', 0, (ac.map (fun x => x.add k0)), (cc - k0)⟩, rfl, by have hz := snp_cut (HP.out.kept hKF) HR.out k0 m hkm; simpa [*] using hz, hKF⟩
  case inr.inl.inr =>
    have hKF : Kept w (((((w2.setCell ⟨w.heap.size + 1, 0, none⟩ (.int .i64 (s.fr + k0))).setCell ⟨w.heap.size + 1, 1, none⟩ (.int .i64 (s.fr + k0 + m))).setCell ⟨w.heap.size + 1, 2, none⟩ (.slice (aw.map (fun x => x.add k0)) m (cw - k0))).setCell ⟨w.heap.size + 1, 3, none⟩ (.slice at' m 0)).setCell ⟨w.heap.size + 1, 4, none⟩ (.slice (ac.map (fun x => x.add k0)) m (cc - k0))) := (((((K3.out.setCell (p := ⟨w.heap.size + 1, 0, none⟩) (by simp) _).setCell (p := ⟨w.heap.size + 1, 1, none⟩) (by simp) _).setCell (p := ⟨w.heap.size + 1, 2, none⟩) (by simp) _).setCell (p := ⟨w.heap.size + 1, 3, none⟩) (by simp) _).setCell (p := ⟨w.heap.size + 1, 4, none⟩) (by simp) _)
    obtain ⟨q0, q1, q2, q3, q4⟩ := five w2 (w.heap.size + 1) (.int .i64 (s.fr + k0)) (.int .i64 (s.fr + k0 + m)) (.slice (aw.map (fun x => x.add k0)) m (cw - k0)) (.slice at' m 0) (.slice (ac.map (fun x => x.add k0)) m (cc - k0)) _ _ _ _ _ c0 c1 c2 c3 c4
    generalize (((((w2.setCell ⟨w.heap.size + 1, 0, none⟩ (.int .i64 (s.fr + k0))).setCell ⟨w.heap.size + 1, 1, none⟩ (.int .i64 (s.fr + k0 + m))).setCell ⟨w.heap.size + 1, 2, none⟩ (.slice (aw.map (fun x => x.add k0)) m (cw - k0))).setCell ⟨w.heap.size + 1, 3, none⟩ (.slice at' m 0)).setCell ⟨w.heap.size + 1, 4, none⟩ (.slice (ac.map (fun x => x.add k0)) m (cc - k0))) = WF at hKF q0 q1 q2 q3 q4 ⊢
    exact bodyPost_ret (v := .tuple #[.agg #[(.int .i64 (s.fr + k0)), (.int .i64 (s.fr + k0 + m)), (.slice (aw.map (fun x => x.add k0)) m (cw - k0)), (.slice at' m 0), (.slice (ac.map (fun x => x.add k0)) m (cc - k0))], .int .i64 0]) (by simp [results, Try.results30, go_sem, q0, q1, q2, q3, q4]) rfl ⟨⟨(aw.map (fun x => x.add k0)), (cw - k0), fun i => A (k0 + i), fun i => K (k0 + i), at', 0, (ac.map (fun x => x.add k0)), (cc - k0)⟩, rfl, by have hz := snp_cut (HP.out.kept hKF) HR.out k0 m hkm; simpa [*] using hz, hKF⟩
  case inl.inr.inr =>
    have hKF : Kept w (((((w2.setCell ⟨w.heap.size + 1, 0, none⟩ (.int .i64 (s.fr + k0))).setCell ⟨w.heap.size + 1, 1, none⟩ (.int .i64 (s.fr + k0 + m))).setCell ⟨w.heap.size + 1, 2, none⟩ (.slice aw m 0)).setCell ⟨w.heap.size + 1, 3, none⟩ (.slice (at'.map (fun x => x.add k0)) m (ct - k0))).setCell ⟨w.heap.size + 1, 4, none⟩ (.slice (ac.map (fun x => x.add k0)) m (cc - k0))) := (((((K3.out.setCell (p := ⟨w.heap.size + 1, 0, none⟩) (by simp) _).setCell (p := ⟨w.heap.size + 1, 1, none⟩) (by simp) _).setCell (p := ⟨w.heap.size + 1, 2, none⟩) (by simp) _).setCell (p := ⟨w.heap.size + 1, 3, none⟩) (by simp) _).setCell (p := ⟨w.heap.size + 1, 4, none⟩) (by simp) _)
    obtain ⟨q0, q1, q2, q3, q4⟩ := five w2 (w.heap.size + 1) (.int .i64 (s.fr + k0)) (.int .i64 (s.fr + k0 + m)) (.slice aw m 0) (.slice (at'.map (fun x => x.add k0)) m (ct - k0)) (.slice (ac.map (fun x => x.add k0)) m (cc - k0)) _ _ _ _ _ c0 c1 c2 c3 c4
    generalize (((((w2.setCell ⟨w.heap.size + 1, 0, none⟩ (.int .i64 (s.fr + k0))).setCell ⟨w.heap.size + 1, 1, none⟩ (.int .i64 (s.fr + k0 + m))).setCell ⟨w.heap.size + 1, 2, none⟩ (.slice aw m 0)).setCell ⟨w.heap.size + 1, 3, none⟩ (.slice (at'.map (fun x => x.add k0)) m (ct - k0))).setCell ⟨w.heap.size + 1, 4, none⟩ (.slice (ac.map (fun x => x.add k0)) m (cc - k0))) = WF at hKF q0 q1 q2 q3 q4 ⊢
    exact bodyPost_ret (v := .tuple #[.agg #[(.int .i64 (s.fr + k0)), (.int .i64 (s.fr + k0 + m)), (.slice aw m 0), (.slice (at'.map (fun x => x.add k0)) m (ct - k0)), (.slice (ac.map (fun x => x.add k0)) m (cc - k0))], .int .i64 0]) (by simp [results, Try.results30, go_sem, q0, q1, q2, q3, q4]) rfl ⟨⟨aw, 0, fun i => A (k0 + i), fun i => K (k0 + i), (at'.map (fun x => x.add k0)), (ct - k0), (ac.map (fun x => x.add k0)), (cc - k0)⟩, rfl, by have hz := snp_cut (HP.out.kept hKF) HR.out k0 m hkm; simpa [*] using hz, hKF⟩
  case inr.inr.inr =>
    have hKF : Kept w (((((w2.setCell ⟨w.heap.size + 1, 0, none⟩ (.int .i64 (s.fr + k0))).setCell ⟨w.heap.size + 1, 1, none⟩ (.int .i64 (s.fr + k0 + m))).setCell ⟨w.heap.size + 1, 2, none⟩ (.slice (aw.map (fun x => x.add k0)) m (cw - k0))).setCell ⟨w.heap.size + 1, 3, none⟩ (.slice (at'.map (fun x => x.add k0)) m (ct - k0))).setCell ⟨w.heap.size + 1, 4, none⟩ (.slice (ac.map (fun x => x.add k0)) m (cc - k0))) := (((((K3.out.setCell (p := ⟨w.heap.size + 1, 0, none⟩) (by simp) _).setCell (p := ⟨w.heap.size + 1, 1, none⟩) (by simp) _).setCell (p := ⟨w.heap.size + 1, 2, none⟩) (by simp) _).setCell (p := ⟨w.heap.size + 1, 3, none⟩) (by simp) _).setCell (p := ⟨w.heap.size + 1, 4, none⟩) (by simp) _)
    obtain ⟨q0, q1, q2, q3, q4⟩ := five w2 (w.heap.size + 1) (.int .i64 (s.fr + k0)) (.int .i64 (s.fr + k0 + m)) (.slice (aw.map (fun x => x.add k0)) m (cw - k0)) (.slice (at'.map (fun x => x.add k0)) m (ct - k0)) (.slice (ac.map (fun x => x.add k0)) m (cc - k0)) _ _ _ _ _ c0 c1 c2 c3 c4
    generalize (((((w2.setCell ⟨w.heap.size + 1, 0, none⟩ (.int .i64 (s.fr + k0))).setCell ⟨w.heap.size + 1, 1, none⟩ (.int .i64 (s.fr + k0 + m))).setCell ⟨w.heap.size + 1, 2, none⟩ (.slice (aw.map (fun x => x.add k0)) m (cw - k0))).setCell ⟨w.heap.size + 1, 3, none⟩ (.slice (at'.map (fun x => x.add k0)) m (ct - k0))).setCell ⟨w.heap.size + 1, 4, none⟩ (.slice (ac.map (fun x => x.add k0)) m (cc - k0))) = WF at hKF q0 q1 q2 q3 q4 ⊢
    exact bodyPost_ret (v := .tuple #[.agg #[(.int .i64 (s.fr + k0)), (.int .i64 (s.fr + k0 + m)), (.slice (aw.map (fun x => x.add k0)) m (cw - k0)), (.slice (at'.map (fun x => x.add k0)) m (ct - k0)), (.slice (ac.map (fun x => x.add k0)) m (cc - k0))], .int .i64 0]) (by simp [results, Try.results30, go_sem, q0, q1, q2, q3, q4]) rfl ⟨⟨(aw.map (fun x => x.add k0)), (cw - k0), fun i => A (k0 + i), fun i => K (k0 + i), (at'.map (fun x => x.add k0)), (ct - k0), (ac.map (fun x => x.add k0)), (cc - k0)⟩, rfl, by have hz := snp_cut (HP.out.kept hKF) HR.out k0 m hkm; simpa [*] using hz, hKF⟩


set_option maxRecDepth 100000 in
set_option maxHeartbeats 4000000 in
theorem rcut_bad (w : World) (p : Pl) (s : Sn) (a b : Int) (hp : Snp w p s) (h : cutE s a b ≠ 0) :
    Calls Try.prog 30 #[.agg #[.int .i64 s.fr, .int .i64 s.up, .slice p.aw s.nw p.cw, .slice p.at' s.nt p.ct, .slice p.ac s.nc p.cc], .int .i64 a, .int .i64 b] w fun e w' => e = .returned (.tuple #[.agg #[.int .i64 0, .int .i64 0, .slice none 0 0, .slice none 0 0, .slice none 0 0], .int .i64 (cutE s a b)]) ∧ Kept w w' := by
  have K1 : Hid (Kept w ((w.alloc (.cells #[.int .i64 s.fr, .int .i64 s.up, .slice p.aw s.nw p.cw, .slice p.at' s.nt p.ct, .slice p.ac s.nc p.cc] 56)).alloc (.cells #[.int .i64 0, .int .i64 0, .slice none 0 0, .slice none 0 0, .slice none 0 0] 56))) := ((Kept.refl w).alloc _).alloc _
  have HP := Lib.hid hp
  have HB := Lib.hid (bxG_new w s p.aw p.at' p.ac p.cw p.ct p.cc)
  by_cases hR : Right s
  · have hin : ¬ (s.fr ≤ a ∧ b ≤ s.up ∧ a ≤ b) := fun hh => h (by unfold cutE; rw [if_neg (fun x => x hR), if_pos hh])
    have hE : cutE s a b = 1 := by unfold cutE; rw [if_neg (fun hh => hh hR), if_neg hin]
    have HRt := Lib.hid (decide_eq_true hR)
    rw [hE]
    clear h hR hE hp
    by_cases h1 : a < s.fr
    · clear hin
      go_enter Try.func30, Try.ntmps30
      go_wp2_with fail
      refine (rright_c _ p s (HP.out.kept K1.out)).mono ?_
      rw [HRt.out]
      rintro e w1 ⟨rfl, hk1⟩
      have HB1 := Lib.hid (HB.out.kept hk1)
      have K2 := Lib.hid (K1.out.trans hk1)
      clear hk1
      have a0 := HB1.out.a0
      have a1 := HB1.out.a1
      have c0 := HB1.out.c0
      have c1 := HB1.out.c1
      have c2 := HB1.out.c2
      have c3 := HB1.out.c3
      have c4 := HB1.out.c4
      have z0 := HB1.out.fz 0
      have z1 := HB1.out.fz 1
      have z2 := HB1.out.fz 2
      have z3 := HB1.out.fz 3
      have z4 := HB1.out.fz 4
      go_wp2_with fail
      have hKF : Kept w (((((w1.setCell ⟨w.heap.size + 1, 0, none⟩ (.int .i64 0)).setCell ⟨w.heap.size + 1, 1, none⟩ (.int .i64 0)).setCell ⟨w.heap.size + 1, 2, none⟩ (.slice none 0 0)).setCell ⟨w.heap.size + 1, 3, none⟩ (.slice none 0 0)).setCell ⟨w.heap.size + 1, 4, none⟩ (.slice none 0 0)) := (((((K2.out.setCell (p := ⟨w.heap.size + 1, 0, none⟩) (by simp) _).setCell (p := ⟨w.heap.size + 1, 1, none⟩) (by simp) _).setCell (p := ⟨w.heap.size + 1, 2, none⟩) (by simp) _).setCell (p := ⟨w.heap.size + 1, 3, none⟩) (by simp) _).setCell (p := ⟨w.heap.size + 1, 4, none⟩) (by simp) _)
      obtain ⟨q0, q1, q2, q3, q4⟩ := five w1 (w.heap.size + 1) (.int .i64 0) (.int .i64 0) (.slice none 0 0) (.slice none 0 0) (.slice none 0 0) _ _ _ _ _ c0 c1 c2 c3 c4
      generalize (((((w1.setCell ⟨w.heap.size + 1, 0, none⟩ (.int .i64 0)).setCell ⟨w.heap.size + 1, 1, none⟩ (.int .i64 0)).setCell ⟨w.heap.size + 1, 2, none⟩ (.slice none 0 0)).setCell ⟨w.heap.size + 1, 3, none⟩ (.slice none 0 0)).setCell ⟨w.heap.size + 1, 4, none⟩ (.slice none 0 0)) = WF at hKF q0 q1 q2 q3 q4 ⊢
      exact bodyPost_ret (v := .tuple #[.agg #[(.int .i64 0), (.int .i64 0), (.slice none 0 0), (.slice none 0 0), (.slice none 0 0)], .int .i64 1]) (by simp [results, Try.results30, go_sem, q0, q1, q2, q3, q4]) rfl ⟨rfl, hKF⟩

    · by_cases h2 : s.up < b
      · clear hin
        go_enter Try.func30, Try.ntmps30
        go_wp2_with fail
        refine (rright_c _ p s (HP.out.kept K1.out)).mono ?_
        rw [HRt.out]
        rintro e w1 ⟨rfl, hk1⟩
        have HB1 := Lib.hid (HB.out.kept hk1)
        have K2 := Lib.hid (K1.out.trans hk1)
        clear hk1
        have a0 := HB1.out.a0
        have a1 := HB1.out.a1
        have c0 := HB1.out.c0
        have c1 := HB1.out.c1
        have c2 := HB1.out.c2
        have c3 := HB1.out.c3
        have c4 := HB1.out.c4
        have z0 := HB1.out.fz 0
        have z1 := HB1.out.fz 1
        have z2 := HB1.out.fz 2
        have z3 := HB1.out.fz 3
        have z4 := HB1.out.fz 4
        go_wp2_with fail
        have hKF : Kept w (((((w1.setCell ⟨w.heap.size + 1, 0, none⟩ (.int .i64 0)).setCell ⟨w.heap.size + 1, 1, none⟩ (.int .i64 0)).setCell ⟨w.heap.size + 1, 2, none⟩ (.slice none 0 0)).setCell ⟨w.heap.size + 1, 3, none⟩ (.slice none 0 0)).setCell ⟨w.heap.size + 1, 4, none⟩ (.slice none 0 0)) := (((((K2.out.setCell (p := ⟨w.heap.size + 1, 0, none⟩) (by simp) _).setCell (p := ⟨w.heap.size + 1, 1, none⟩) (by simp) _).setCell (p := ⟨w.heap.size + 1, 2, none⟩) (by simp) _).setCell (p := ⟨w.heap.size + 1, 3, none⟩) (by simp) _).setCell (p := ⟨w.heap.size + 1, 4, none⟩) (by simp) _)
        obtain ⟨q0, q1, q2, q3, q4⟩ := five w1 (w.heap.size + 1) (.int .i64 0) (.int .i64 0) (.slice none 0 0) (.slice none 0 0) (.slice none 0 0) _ _ _ _ _ c0 c1 c2 c3 c4
        generalize (((((w1.setCell ⟨w.heap.size + 1, 0, none⟩ (.int .i64 0)).setCell ⟨w.heap.size + 1, 1, none⟩ (.int .i64 0)).setCell ⟨w.heap.size + 1, 2, none⟩ (.slice none 0 0)).setCell ⟨w.heap.size + 1, 3, none⟩ (.slice none 0 0)).setCell ⟨w.heap.size + 1, 4, none⟩ (.slice none 0 0)) = WF at hKF q0 q1 q2 q3 q4 ⊢
        exact bodyPost_ret (v := .tuple #[.agg #[(.int .i64 0), (.int .i64 0), (.slice none 0 0), (.slice none 0 0), (.slice none 0 0)], .int .i64 1]) (by simp [results, Try.results30, go_sem, q0, q1, q2, q3, q4]) rfl ⟨rfl, hKF⟩

      · have h3 : b < a := by omega
        clear hin
        go_enter Try.func30, Try.ntmps30
        go_wp2_with fail
        refine (rright_c _ p s (HP.out.kept K1.out)).mono ?_
        rw [HRt.out]
        rintro e w1 ⟨rfl, hk1⟩
        have HB1 := Lib.hid (HB.out.kept hk1)
        have K2 := Lib.hid (K1.out.trans hk1)
        clear hk1
        have a0 := HB1.out.a0
        have a1 := HB1.out.a1
        have c0 := HB1.out.c0
        have c1 := HB1.out.c1
        have c2 := HB1.out.c2
        have c3 := HB1.out.c3
        have c4 := HB1.out.c4
        have z0 := HB1.out.fz 0
        have z1 := HB1.out.fz 1
        have z2 := HB1.out.fz 2
        have z3 := HB1.out.fz 3
        have z4 := HB1.out.fz 4
        go_wp2_with fail
        have hKF : Kept w (((((w1.setCell ⟨w.heap.size + 1, 0, none⟩ (.int .i64 0)).setCell ⟨w.heap.size + 1, 1, none⟩ (.int .i64 0)).setCell ⟨w.heap.size + 1, 2, none⟩ (.slice none 0 0)).setCell ⟨w.heap.size + 1, 3, none⟩ (.slice none 0 0)).setCell ⟨w.heap.size + 1, 4, none⟩ (.slice none 0 0)) := (((((K2.out.setCell (p := ⟨w.heap.size + 1, 0, none⟩) (by simp) _).setCell (p := ⟨w.heap.size + 1, 1, none⟩) (by simp) _).setCell (p := ⟨w.heap.size + 1, 2, none⟩) (by simp) _).setCell (p := ⟨w.heap.size + 1, 3, none⟩) (by simp) _).setCell (p := ⟨w.heap.size + 1, 4, none⟩) (by simp) _)
        obtain ⟨q0, q1, q2, q3, q4⟩ := five w1 (w.heap.size + 1) (.int .i64 0) (.int .i64 0) (.slice none 0 0) (.slice none 0 0) (.slice none 0 0) _ _ _ _ _ c0 c1 c2 c3 c4
        generalize (((((w1.setCell ⟨w.heap.size + 1, 0, none⟩ (.int .i64 0)).setCell ⟨w.heap.size + 1, 1, none⟩ (.int .i64 0)).setCell ⟨w.heap.size + 1, 2, none⟩ (.slice none 0 0)).setCell ⟨w.heap.size + 1, 3, none⟩ (.slice none 0 0)).setCell ⟨w.heap.size + 1, 4, none⟩ (.slice none 0 0)) = WF at hKF q0 q1 q2 q3 q4 ⊢
        exact bodyPost_ret (v := .tuple #[.agg #[(.int .i64 0), (.int .i64 0), (.slice none 0 0), (.slice none 0 0), (.slice none 0 0)], .int .i64 1]) (by simp [results, Try.results30, go_sem, q0, q1, q2, q3, q4]) rfl ⟨rfl, hKF⟩

  · have hE : cutE s a b = 12 := by unfold cutE; rw [if_pos hR]
    have HRt := Lib.hid (decide_eq_false hR)
    rw [hE]
    clear h hR hE hp
    go_enter Try.func30, Try.ntmps30
    go_wp2_with fail
    refine (rright_c _ p s (HP.out.kept K1.out)).mono ?_
    rw [HRt.out]
    rintro e w1 ⟨rfl, hk1⟩
    have HB1 := Lib.hid (HB.out.kept hk1)
    have K2 := Lib.hid (K1.out.trans hk1)
    clear hk1
    have a0 := HB1.out.a0
    have a1 := HB1.out.a1
    have c0 := HB1.out.c0
    have c1 := HB1.out.c1
    have c2 := HB1.out.c2
    have c3 := HB1.out.c3
    have c4 := HB1.out.c4
    have z0 := HB1.out.fz 0
    have z1 := HB1.out.fz 1
    have z2 := HB1.out.fz 2
    have z3 := HB1.out.fz 3
    have z4 := HB1.out.fz 4
    go_wp2_with fail
    have hKF : Kept w (((((w1.setCell ⟨w.heap.size + 1, 0, none⟩ (.int .i64 0)).setCell ⟨w.heap.size + 1, 1, none⟩ (.int .i64 0)).setCell ⟨w.heap.size + 1, 2, none⟩ (.slice none 0 0)).setCell ⟨w.heap.size + 1, 3, none⟩ (.slice none 0 0)).setCell ⟨w.heap.size + 1, 4, none⟩ (.slice none 0 0)) := (((((K2.out.setCell (p := ⟨w.heap.size + 1, 0, none⟩) (by simp) _).setCell (p := ⟨w.heap.size + 1, 1, none⟩) (by simp) _).setCell (p := ⟨w.heap.size + 1, 2, none⟩) (by simp) _).setCell (p := ⟨w.heap.size + 1, 3, none⟩) (by simp) _).setCell (p := ⟨w.heap.size + 1, 4, none⟩) (by simp) _)
    obtain ⟨q0, q1, q2, q3, q4⟩ := five w1 (w.heap.size + 1) (.int .i64 0) (.int .i64 0) (.slice none 0 0) (.slice none 0 0) (.slice none 0 0) _ _ _ _ _ c0 c1 c2 c3 c4
    generalize (((((w1.setCell ⟨w.heap.size + 1, 0, none⟩ (.int .i64 0)).setCell ⟨w.heap.size + 1, 1, none⟩ (.int .i64 0)).setCell ⟨w.heap.size + 1, 2, none⟩ (.slice none 0 0)).setCell ⟨w.heap.size + 1, 3, none⟩ (.slice none 0 0)).setCell ⟨w.heap.size + 1, 4, none⟩ (.slice none 0 0)) = WF at hKF q0 q1 q2 q3 q4 ⊢
    exact bodyPost_ret (v := .tuple #[.agg #[(.int .i64 0), (.int .i64 0), (.slice none 0 0), (.slice none 0 0), (.slice none 0 0)], .int .i64 12]) (by simp [results, Try.results30, go_sem, q0, q1, q2, q3, q4]) rfl ⟨rfl, hKF⟩


theorem rcut_c (w : World) (p : Pl) (s : Sn) (a b : Int) (hp : Snp w p s) :
    Calls Try.prog 30 #[.agg #[.int .i64 s.fr, .int .i64 s.up, .slice p.aw s.nw p.cw, .slice p.at' s.nt p.ct, .slice p.ac s.nc p.cc], .int .i64 a, .int .i64 b] w fun e w' =>
      ∃ q : Pl, e = .returned (.tuple #[.agg #[.int .i64 (cutR s a b).fr, .int .i64 (cutR s a b).up, .slice q.aw (cutR s a b).nw q.cw, .slice q.at' (cutR s a b).nt q.ct, .slice q.ac (cutR s a b).nc q.cc], .int .i64 (cutE s a b)]) ∧ Snp w' q (cutR s a b) ∧ Kept w w' := by
  by_cases h : cutE s a b = 0
  · obtain ⟨hR, h1, h2, h3⟩ := cutE0 h
    have h4 := hR.1.2.2.2.1
    have hr : cutR s a b = cutOf s (a - s.fr).toNat (b - a).toNat := by rw [cutR, if_pos h]
    have e1 : s.fr + ((a - s.fr).toNat : Int) = a := by omega
    have e2 : a + ((b - a).toNat : Int) = b := by omega
    rw [hr, h]
    have hc := rcut_ok w p s (a - s.fr).toNat (b - a).toNat hp hR (by omega)
    rw [e1, e2] at hc
    refine hc.mono ?_
    rintro e w' ⟨q, rfl, hq, hk⟩
    exact ⟨q, by simp only [cutOf]; rw [e1, e2], hq, hk⟩
  · have hr : cutR s a b = Sn.nil := by rw [cutR, if_neg h]
    rw [hr]
    refine (rcut_bad w p s a b hp h).mono ?_
    rintro e w' ⟨rfl, hk⟩
    exact ⟨_, rfl, Snp.nil w', hk⟩
end Go.Proofs.Ytcjadneamacilaa.C

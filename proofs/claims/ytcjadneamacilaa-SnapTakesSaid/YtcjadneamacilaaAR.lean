/- SnapTakes' walk. -/
import Derived.Test.YtcjadneamacilaaAQ
namespace Go.Proofs.Ytcjadneamacilaa.C
open Go.RowKit

set_option maxRecDepth 100000 in
set_option maxHeartbeats 8000000 in
theorem Takes_w (a0 a1 a2 a3 : Option Addr) (fa fb : Int) (l0 l1 l2 l3 c0 c1 c2 c3 : Nat) (z0 z1 z2 z3 : Nat → Int) (w : World) (_wa : (Lit.int .i64 fa).wf = true) (_wb : (Lit.int .i64 fb).wf = true)
    (s0 : RowI .i64 w a0 l0 z0) (s1 : RowI .i64 w a1 l1 z1) (s2 : RowI .u64 w a2 l2 z2) (s3 : RowI .u8 w a3 l3 z3) :
    Calls Try.prog 3 #[.slice a0 l0 c0, .slice a1 l1 c1, .slice a2 l2 c2, .slice a3 l3 c3, .int .i64 fa, .int .i64 fb] w fun e w' => e = .returned (.bool true) ∧ Kept w w' := by
  have R0 := Lib.hid s0
  have R1 := Lib.hid s1
  have R2 := Lib.hid s2
  have R3 := Lib.hid s3
  have mx : l0 ≤ 9223372036854775807 ∧ l1 ≤ 9223372036854775807 ∧ l2 ≤ 9223372036854775807 ∧ l3 ≤ 9223372036854775807 := by
    have h0 := s0.1; have h1 := s1.1; have h2 := s2.1; have h3 := s3.1
    simp [maxLen] at h0 h1 h2 h3; omega
  obtain ⟨mx0, mx1, mx2, mx3⟩ := mx
  have K1 : Hid (Kept w (w.alloc (.cells #[.int .i64 8, .int .i64 1, .int .i64 0, .int .i64 0] 26))) := (Kept.refl w).alloc _
  have H7 : Hid (∀ W : World, Calls Try.prog 7 #[.agg #[.int .i64 8, .int .i64 1, .int .i64 0, .int .i64 0]] W fun e w' => ∃ mb mm ms tb sb cap, e = .returned (.tuple #[.pointer (some ⟨mb, 0, none⟩), .int .i64 0]) ∧ Mc w' mb mm ms tb sb 8 cap zeroZ (fun _ => fresh) ∧ W.heap.size ≤ mb ∧ W.heap.size ≤ ms ∧ W.heap.size ≤ sb ∧ Kept W w') := fun W => mnew_c W 8 (by omega) (by omega)
  have hlw : w.heap.size < (w.alloc (.cells #[.int .i64 8, .int .i64 1, .int .i64 0, .int .i64 0] 26)).heap.size := by simp
  have HC : Hid (∀ W, Kept (w.alloc (.cells #[.int .i64 8, .int .i64 1, .int .i64 0, .int .i64 0] 26)) W → W.cell? ⟨w.heap.size, 0, none⟩ = some (.int .i64 8) ∧ W.cell? ⟨w.heap.size, 1, none⟩ = some (.int .i64 1) ∧ W.cell? ⟨w.heap.size, 2, none⟩ = some (.int .i64 0) ∧ W.cell? ⟨w.heap.size, 3, none⟩ = some (.int .i64 0)) := fun W hW =>
    ⟨hW.cell (by simp), hW.cell (by simp), hW.cell (by simp), hW.cell (by simp)⟩
  clear s0 s1 s2 s3
  go_enter Try.func3, Try.ntmps3
  go_wp2_with fail
  refine (H7.out _).mono ?_
  rintro e w1 ⟨mb, mm, ms, tb, sb, cap, rfl, hM, hb1, hb2, hb3, hk⟩
  obtain ⟨k0, k1, k2, k3⟩ := HC.out _ hk
  have HM := Lib.hid hM
  have HK := Lib.hid (K1.out.trans hk)
  have hbb := Lib.hid (And.intro (Nat.le_trans (Nat.le_of_lt hlw) hb2) (Nat.le_trans (Nat.le_of_lt hlw) hb3))
  clear hM hb1 hb2 hb3 hk hlw H7 K1
  go_wp2_with fail
  refine (newv_c _).mono ?_
  rintro e w2 ⟨vb, rm, rf, rt, rs, capf, capt, G, Q, rfl, hV, hk⟩
  have HL0 : Hid (LS w w2 w1.heap.size mb mm ms tb sb cap vb rm rf rt rs capf capt G Q zeroZ zeroZ (fun _ => fresh) (fun _ => fresh)) :=
    ⟨HK.out.trans hk, HM.out.kept hk, hV, ⟨World.block_lt_of_cell? w1 _ HM.out.m0, HM.out.M.ltt, HM.out.M.lt, HM.out.T.ltt, HM.out.T.lt⟩, hbb.out.1, hbb.out.2, HK.out.size⟩
  generalize w1.heap.size = lo at HL0
  have HTY0 : Hid (tyOk (fun _ => fresh)) := fun i _ => by simp [fresh]
  clear hV hk k0 k1 k2 k3 HM HK hbb HC
  go_wp2_with fail
  go_loopw [18] (fun i wr => ∃ (k : Nat) (Z : Nat → Nat → Int) (L : Nat → Fm), k ≤ 40 ∧ i = .int .i64 k ∧ Hid (LS w wr lo mb mm ms tb sb cap vb rm rf rt rs capf capt G Q Z Z L L) ∧ Hid (tyOk L)) (fun i _ => 40 - (intOf i).toNat)
  case atStart => exact ⟨0, zeroZ, fun _ => fresh, by omega, rfl, HL0, HTY0⟩
  case round =>
    obtain ⟨k, Z, L, hk40, rfl, H0, HTk⟩ := hrel
    clear HL0 HTY0
    by_cases hc : k < l0 ∧ k < l1 ∧ k < l2 ∧ k < l3 ∧ k < 40
    · obtain ⟨x0, x1, x2, x3, x4⟩ := hc
      have i0 : (k : Int) < l0 := by omega
      have i1 : (k : Int) < l1 := by omega
      have i2 : (k : Int) < l2 := by omega
      have i3 : (k : Int) < l3 := by omega
      have i4 : (k : Int) < 40 := by omega
      obtain ⟨b0, o0, ea, h0⟩ := R0.out.2 (by omega)
      obtain ⟨b1, o1, eb, h1⟩ := R1.out.2 (by omega)
      obtain ⟨b2, o2, ec, h2⟩ := R2.out.2 (by omega)
      obtain ⟨b3, o3, ed, h3⟩ := R3.out.2 (by omega)
      subst ea eb ec ed
      obtain ⟨F, hF⟩ : ∃ F, z0 k = F := ⟨_, rfl⟩
      obtain ⟨A, hA⟩ : ∃ F, z1 k = F := ⟨_, rfl⟩
      obtain ⟨V, hV⟩ : ∃ F, z2 k = F := ⟨_, rfl⟩
      obtain ⟨kd, hK⟩ : ∃ F, z3 k = F := ⟨_, rfl⟩
      have h0 := h0 k x0
      have h1 := h1 k x1
      have h2 := h2 k x2
      have h3 := h3 k x3
      rw [hF] at h0
      rw [hA] at h1
      rw [hV] at h2
      rw [hK] at h3
      have HV : Hid ((Lit.int .u64 V).wf = true) := h2.2
      have hkd := bd_u8 h3.2
      have HS : Hid (∀ W, Kept w W → W.cell? ⟨b0, o0 + k, none⟩ = some (.int .i64 F) ∧ W.cell? ⟨b1, o1 + k, none⟩ = some (.int .i64 A) ∧ W.cell? ⟨b2, o2 + k, none⟩ = some (.int .u64 V) ∧ W.cell? ⟨b3, o3 + k, none⟩ = some (.int .u8 kd)) := fun W hW => ⟨hW.cell h0.1, hW.cell h1.1, hW.cell h2.1, hW.cell h3.1⟩
      obtain ⟨tt, htt⟩ : ∃ t : Int, kd % 3 = t := ⟨_, rfl⟩
      have t0 : 0 ≤ tt := by omega
      have t1 : tt ≤ 2 := by omega
      have t2 : kd.tmod 3 = tt := by rw [Int.tmod_eq_emod_of_nonneg hkd.1]; exact htt
      have t3 : IntKind.u8.wrap tt = tt := by simp [IntKind.wrap, IntKind.bits, IntKind.signed]; omega
      have t4 : IntKind.i64.wrap tt = tt := by rw [IntKind.wrap_i64]; omega
      have HTY := Lib.hid (tyOk_rf (tyOk_rt HTk.out 8 F tt true) 8 F)
      clear h0 h1 h2 h3 hF hA hV hK R0 R1 R2 R3
      go_wp2_with fail
      go_region_held3 (fun W => W.cell? ⟨b0, o0 + k, none⟩ = some (.int .i64 F) ∧ W.cell? ⟨b1, o1 + k, none⟩ = some (.int .i64 A) ∧ W.cell? ⟨b2, o2 + k, none⟩ = some (.int .u64 V))
        (first | exact ⟨(HS.out _ H9.out.k).1, (HS.out _ H9.out.k).2.1, (HS.out _ H9.out.k).2.2.1⟩ | exact ⟨(HS.out _ H0.out.k).1, (HS.out _ H0.out.k).2.1, (HS.out _ H0.out.k).2.2.1⟩ | exact ⟨(HS.out _ (H0.out.kept ((Kept.refl _).drew)).k).1, (HS.out _ (H0.out.kept ((Kept.refl _).drew)).k).2.1, (HS.out _ (H0.out.kept ((Kept.refl _).drew)).k).2.2.1⟩)
        (first
          | (go_at_call 10; refine (mstore_c _ mm ms 8 Z F A V (by first | exact H0.out.M.M | exact (H0.out.kept ((Kept.refl _).drew)).M.M) HV.out).mono ?_; rintro e w9 ⟨rfl, hm, hg⟩; (first | (have H9 := Lib.hid (H0.out.setM hm hg)) | (have H9 := Lib.hid ((H0.out.kept ((Kept.refl _).drew)).setM hm hg))); clear hm hg)
          | (go_at_call 9; refine (mMem_c _ (by first | exact H0.out.M | exact (H0.out.kept ((Kept.refl _).drew)).M)).mono ?_; rintro e w' ⟨rfl, rfl⟩))
      go_wp2_with fail
      go_region_held3 (fun W => W.cell? ⟨b0, o0 + k, none⟩ = some (.int .i64 F) ∧ W.cell? ⟨b1, o1 + k, none⟩ = some (.int .i64 A) ∧ W.cell? ⟨b2, o2 + k, none⟩ = some (.int .u64 V) ∧ W.cell? ⟨vb, 0, none⟩ = some (.pointer (some ⟨rm, 0, none⟩)))
        (first | exact ⟨(HS.out _ H10.out.k).1, (HS.out _ H10.out.k).2.1, (HS.out _ H10.out.k).2.2.1, H10.out.V.m0⟩ | exact ⟨(HS.out _ H9.out.k).1, (HS.out _ H9.out.k).2.1, (HS.out _ H9.out.k).2.2.1, H9.out.V.m0⟩ | exact ⟨(HS.out _ (H9.out.kept ((Kept.refl _).drew)).k).1, (HS.out _ (H9.out.kept ((Kept.refl _).drew)).k).2.1, (HS.out _ (H9.out.kept ((Kept.refl _).drew)).k).2.2.1, (H9.out.kept ((Kept.refl _).drew)).V.m0⟩)
        (first
          | (go_at_call 11; refine (rmstore_c _ rm rf 8 capf G Q Z F A V (by first | exact H9.out.V.M | exact (H9.out.kept ((Kept.refl _).drew)).V.M) HV.out).mono ?_; rintro e w10 ⟨row, rfl, hm, hg, hrow⟩; (first | (have H10 := Lib.hid (H9.out.setM2 hm hg hrow)) | (have H10 := Lib.hid ((H9.out.kept ((Kept.refl _).drew)).setM2 hm hg hrow))); clear hm hg hrow))
      go_wp2_with fail
      go_region_held3 (fun W => W.cell? ⟨b0, o0 + k, none⟩ = some (.int .i64 F) ∧ W.cell? ⟨b3, o3 + k, none⟩ = some (.int .u8 kd))
        (first | exact ⟨(HS.out _ H11.out.k).1, (HS.out _ H11.out.k).2.2.2⟩ | exact ⟨(HS.out _ H10.out.k).1, (HS.out _ H10.out.k).2.2.2⟩ | exact ⟨(HS.out _ (H10.out.kept ((Kept.refl _).drew)).k).1, (HS.out _ (H10.out.kept ((Kept.refl _).drew)).k).2.2.2⟩)
        (first
          | (go_at_call 13; refine (retype_c _ tb sb 8 cap L F tt true (by first | exact H10.out.M.T | exact (H10.out.kept ((Kept.refl _).drew)).M.T)).mono ?_; rintro e w11 ⟨rfl, hm, hg⟩; (first | (have H11 := Lib.hid (H10.out.setT hm hg)) | (have H11 := Lib.hid ((H10.out.kept ((Kept.refl _).drew)).setT hm hg))); clear hm hg)
          | (go_at_call 12; refine (mTyp_c _ (by first | exact H10.out.M | exact (H10.out.kept ((Kept.refl _).drew)).M)).mono ?_; rintro e w' ⟨rfl, rfl⟩))
      go_wp2_with fail
      go_region_held3 (fun W => W.cell? ⟨b0, o0 + k, none⟩ = some (.int .i64 F) ∧ W.cell? ⟨b3, o3 + k, none⟩ = some (.int .u8 kd) ∧ W.cell? ⟨vb, 4, none⟩ = some (.pointer (some ⟨rt, 0, none⟩)))
        (first | exact ⟨(HS.out _ H12.out.k).1, (HS.out _ H12.out.k).2.2.2, H12.out.V.m4⟩ | exact ⟨(HS.out _ H11.out.k).1, (HS.out _ H11.out.k).2.2.2, H11.out.V.m4⟩ | exact ⟨(HS.out _ (H11.out.kept ((Kept.refl _).drew)).k).1, (HS.out _ (H11.out.kept ((Kept.refl _).drew)).k).2.2.2, (H11.out.kept ((Kept.refl _).drew)).V.m4⟩)
        (first
          | (go_at_call 14; refine (rretype_c _ rt rs 8 capt L F tt true (by first | exact H11.out.V.T | exact (H11.out.kept ((Kept.refl _).drew)).V.T)).mono ?_; rintro e w12 ⟨rfl, hm, hg⟩; (first | (have H12 := Lib.hid (H11.out.setT2 hm hg)) | (have H12 := Lib.hid ((H11.out.kept ((Kept.refl _).drew)).setT2 hm hg))); clear hm hg))
      go_wp2_with fail
      go_region_held3 (fun W => W.cell? ⟨b0, o0 + k, none⟩ = some (.int .i64 F))
        (first | exact (HS.out _ H13.out.k).1 | exact (HS.out _ H12.out.k).1 | exact (HS.out _ (H12.out.kept ((Kept.refl _).drew)).k).1)
        (first
          | (go_at_call 15; refine (tref_c _ tb sb 8 cap (rtL 8 L F tt true) F (by first | exact H12.out.M.T | exact (H12.out.kept ((Kept.refl _).drew)).M.T)).mono ?_; rintro e w13 ⟨rfl, hm, hg⟩; (first | (have H13 := Lib.hid (H12.out.setT hm hg)) | (have H13 := Lib.hid ((H12.out.kept ((Kept.refl _).drew)).setT hm hg))); clear hm hg)
          | (go_at_call 12; refine (mTyp_c _ (by first | exact H12.out.M | exact (H12.out.kept ((Kept.refl _).drew)).M)).mono ?_; rintro e w' ⟨rfl, rfl⟩))
      go_wp2_with fail
      go_region_held3 (fun W => W.cell? ⟨b0, o0 + k, none⟩ = some (.int .i64 F) ∧ W.cell? ⟨vb, 4, none⟩ = some (.pointer (some ⟨rt, 0, none⟩)))
        (first | exact ⟨(HS.out _ H14.out.k).1, H14.out.V.m4⟩ | exact ⟨(HS.out _ H13.out.k).1, H13.out.V.m4⟩ | exact ⟨(HS.out _ (H13.out.kept ((Kept.refl _).drew)).k).1, (H13.out.kept ((Kept.refl _).drew)).V.m4⟩)
        (first
          | (go_at_call 16; refine (rref_c _ rt rs 8 capt (rtL 8 L F tt true) F (by first | exact H13.out.V.T | exact (H13.out.kept ((Kept.refl _).drew)).V.T)).mono ?_; rintro e w14 ⟨rfl, hm, hg⟩; (first | (have H14 := Lib.hid (H13.out.setT2 hm hg)) | (have H14 := Lib.hid ((H13.out.kept ((Kept.refl _).drew)).setT2 hm hg))); clear hm hg))
      go_wp2_with fail
      go_roundw
      case rel => exact ⟨k + 1, _, _, by omega, by go_num, H14.out, HTY.out⟩
      case measure => simp [intOf]; omega

    · have HL := Lib.hid (And.intro H0.out HTk.out)
      have hx : ¬ (k : Int) < l0 ∨ ((k : Int) < l0 ∧ ¬ (k : Int) < l1) ∨ ((k : Int) < l0 ∧ (k : Int) < l1 ∧ ¬ (k : Int) < l2) ∨ ((k : Int) < l0 ∧ (k : Int) < l1 ∧ (k : Int) < l2 ∧ ¬ (k : Int) < l3) ∨ ((k : Int) < l0 ∧ (k : Int) < l1 ∧ (k : Int) < l2 ∧ (k : Int) < l3 ∧ ¬ (k : Int) < 40) := by omega
      clear hc H0 HTk R0 R1 R2 R3
      rcases hx with i0 | ⟨i0, i1⟩ | ⟨i0, i1, i2⟩ | ⟨i0, i1, i2, i3⟩ | ⟨i0, i1, i2, i3, i4⟩
      all_goals
        go_wp2_with fail
        refine (take_all _ mb mm ms tb sb cap Z L fa fb HL.out.1.M HL.out.2).mono ?_
        rintro e u1 ⟨p, rfl, hs, hk⟩
        have HL1 := Lib.hid (HL.out.1.kept hk)
        have HP := Lib.hid hs
        clear hs hk
        go_wp2_with fail
        refine (rtake_all _ lo vb rm rf rt rs capf capt G Q Z L fa fb ((HL1.out.kept ((Kept.refl _).alloc _)).V) HL.out.2).mono ?_
        rintro e u2 ⟨q, rfl, hs, hk⟩
        have HQ := Lib.hid hs
        have HK2 := Lib.hid ((HL1.out.k.alloc _).trans hk)
        have HP2 := Lib.hid ((HP.out.kept ((Kept.refl _).alloc _)).kept hk)
        have B1 := Lib.hid ((five_new u1 _ _ _ _ _).kept hk)
        have HU := Lib.hid (tk_100 Z L fa fb)
        clear hs hk HL1 HP
        generalize tkS Z L fa fb = u at *
        generalize tkE fa fb = E1
        go_wp2_with fail
        refine (take_zero _ _ fa fb (by simp)).mono ?_
        rintro e u3 ⟨rfl, hk⟩
        have hk3 := (((Kept.refl u2).alloc _).alloc _).trans hk
        have HK3 := Lib.hid (HK2.out.trans hk3)
        have HP3 := Lib.hid (HP2.out.kept hk3)
        have HQ3 := Lib.hid (HQ.out.kept hk3)
        have B13 := Lib.hid (B1.out.kept hk3)
        have B23 := Lib.hid ((five_new u2 _ _ _ _ _).kept (((Kept.refl _).alloc _).trans hk))
        clear hk hk3 HP2 HQ B1
        go_wp2_with fail
        refine (take_nil _ fa fb).mono ?_
        rintro e u4 ⟨rfl, hk⟩
        have hk4 := ((Kept.refl u3).alloc _).trans hk
        have HK4 := Lib.hid (HK3.out.trans hk4)
        have HP4 := Lib.hid (HP3.out.kept hk4)
        have HQ4 := Lib.hid (HQ3.out.kept hk4)
        obtain ⟨d0, d1, d2, d3, d4⟩ := B13.out.kept hk4
        obtain ⟨e0, e1, e2, e3, e4⟩ := B23.out.kept hk4
        have hl1 := World.block_lt_of_cell? u4 _ d0
        have hl2 := World.block_lt_of_cell? u4 _ e0
        clear hk hk4 HP3 HQ3 B13 B23 HK3 HK2
        go_wp2_with fail
        refine (rsame_c _ p q u u (HP4.out.kept ((Kept.refl _).alloc _)) (HQ4.out.kept ((Kept.refl _).alloc _)) HU.out).mono ?_
        rw [decide_eq_true (same_refl u)]
        rintro e u5 ⟨rfl, hk⟩
        have HK5 := Lib.hid ((HK4.out.alloc _).trans hk)
        clear hk d0 d1 d2 d3 d4 e0 e1 e2 e3 e4 hl1 hl2
        go_wp2_with (go_at_call 20; refine (awake_c _).mono ?_; rintro e u6 ⟨rfl, hk6⟩)
        go_ret
        exact ⟨rfl, HK5.out.trans hk6⟩

end Go.Proofs.Ytcjadneamacilaa.C

/- SnapTells' walk. -/
import Derived.Test.YtcjadneamacilaaV0
import Derived.Test.YtcjadneamacilaaAE
import Derived.Test.YtcjadneamacilaaAF
import Derived.Test.YtcjadneamacilaaAG
import Derived.Test.YtcjadneamacilaaAH
import Derived.Test.YtcjadneamacilaaK
import Derived.Deep.RegionHeld3
namespace Go.Proofs.Ytcjadneamacilaa.C
open Go.RowKit

def Five (W : World) (b : Nat) (v0 v1 v2 v3 v4 : Value) : Prop := W.cell? ⟨b, 0, none⟩ = some v0 ∧ W.cell? ⟨b, 1, none⟩ = some v1 ∧ W.cell? ⟨b, 2, none⟩ = some v2 ∧ W.cell? ⟨b, 3, none⟩ = some v3 ∧ W.cell? ⟨b, 4, none⟩ = some v4
theorem Five.kept {W W' : World} {b : Nat} {v0 v1 v2 v3 v4 : Value} (h : Five W b v0 v1 v2 v3 v4) (k : Kept W W') : Five W' b v0 v1 v2 v3 v4 :=
  ⟨k.cell h.1, k.cell h.2.1, k.cell h.2.2.1, k.cell h.2.2.2.1, k.cell h.2.2.2.2⟩
theorem five_new (w : World) (v0 v1 v2 v3 v4 : Value) : Five (w.alloc (.cells #[v0, v1, v2, v3, v4] 56)) w.heap.size v0 v1 v2 v3 v4 := by
  refine ⟨?_, ?_, ?_, ?_, ?_⟩ <;> rw [World.cell?_alloc_new] <;> rfl
theorem same_refl (s : Sn) : Same s s := ⟨rfl, rfl, ⟨rfl, fun _ _ => ⟨rfl, fun _ _ => rfl⟩⟩, ⟨rfl, fun _ _ => rfl⟩, ⟨rfl, fun _ _ => rfl⟩⟩
theorem cutR_100 (s : Sn) (a b : Int) (i : Nat) (_h : i < (cutR s a b).nw) : (cutR s a b).L i ≤ 100 := by
  unfold cutR
  split
  · simp [cutOf]
  · simp [Sn.nil]
theorem rtext_c (w : World) (p : Pl) (s : Sn) (f : Int) (hp : Snp w p s) :
    Calls Try.prog 31 #[.agg #[Value.int .i64 s.fr, .int .i64 s.up, .slice p.aw s.nw p.cw, .slice p.at' s.nt p.ct, .slice p.ac s.nc p.cc], .int .i64 f] w fun e w' => e = .returned (.tuple #[.string (textR s f), .int .i64 (textE s f)]) ∧ Kept w w' := by
  by_cases h : Right s ∧ s.fr ≤ f ∧ f ≤ s.up - 1
  · obtain ⟨hR, h1, h2⟩ := h
    have h3 := hR.1.2.2.2.1
    have hE : textE s f = 0 := by unfold textE; rw [if_neg (fun x => x hR), if_pos ⟨h1, h2⟩]
    have hk : s.fr + ((f - s.fr).toNat : Int) = f := by omega
    have h := rtext_ok w p s (f - s.fr).toNat hp hR (by omega)
    rw [hk] at h
    refine h.mono ?_
    rintro e w' ⟨rfl, hk'⟩
    exact ⟨by rw [textR, if_pos hE, hE], hk'⟩
  · have hne : textE s f ≠ 0 := by
      unfold textE; split
      · omega
      · rename_i hr
        rw [if_neg (fun hh => h ⟨Decidable.not_not.1 hr, hh⟩)]; omega
    refine (rtext_bad w p s f hp h).mono ?_
    rintro e w' ⟨rfl, hk⟩
    exact ⟨by rw [textR, if_neg hne], hk⟩

set_option maxRecDepth 100000 in
set_option maxHeartbeats 8000000 in
theorem Tells_yes (p q : Pl) (s t : Sn) (f a b : Int) (w : World) (hp : Snp w p s) (hq : Snp w q t) (h1 : smallP s) (h2 : smallP t) :
    Calls Try.prog 6 #[.agg #[Value.int .i64 s.fr, .int .i64 s.up, .slice p.aw s.nw p.cw, .slice p.at' s.nt p.ct, .slice p.ac s.nc p.cc], .agg #[Value.int .i64 t.fr, .int .i64 t.up, .slice q.aw t.nw q.cw, .slice q.at' t.nt q.ct, .slice q.ac t.nc q.cc], .int .i64 f, .int .i64 a, .int .i64 b] w fun e w' => e = .returned (.bool true) ∧ Kept w w' := by
  have HP := Lib.hid hp
  have HQ := Lib.hid hq
  have HS0 := Lib.hid h1
  have HS1 := Lib.hid (decide_eq_true h1)
  have HS2 := Lib.hid (decide_eq_true h2)
  have K0 : Hid (Kept w ((w.alloc (.cells #[Value.int .i64 s.fr, .int .i64 s.up, .slice p.aw s.nw p.cw, .slice p.at' s.nt p.ct, .slice p.ac s.nc p.cc] 56)).alloc (.cells #[Value.int .i64 t.fr, .int .i64 t.up, .slice q.aw t.nw q.cw, .slice q.at' t.nt q.ct, .slice q.ac t.nc q.cc] 56))) := ((Kept.refl w).alloc _).alloc _
  have HT0 := Lib.hid (two_new w p q s t)
  have HU := Lib.hid (cutR_100 s a b)
  clear hp hq h1 h2
  go_enter Try.func6, Try.ntmps6
  go_wp2_with fail
  refine (small_c _ p s (HP.out.kept K0.out)).mono ?_
  rw [HS1.out]
  rintro e w1 ⟨rfl, hk⟩
  have K1 := Lib.hid (K0.out.trans hk)
  have KA1 := Lib.hid hk
  have HT1 := Lib.hid (HT0.out.kept hk)
  clear hk
  have a0 := HT1.out.a0
  have a1 := HT1.out.a1
  have a2 := HT1.out.a2
  have a3 := HT1.out.a3
  have a4 := HT1.out.a4
  have b0 := HT1.out.c0
  have b1 := HT1.out.c1
  have b2 := HT1.out.c2
  have b3 := HT1.out.c3
  have b4 := HT1.out.c4
  have lA : w.heap.size < w1.heap.size := by have := KA1.out.size; simp at this; omega
  have lB : w.heap.size + 1 < w1.heap.size := by have := KA1.out.size; simp at this; omega
  go_wp2_with fail
  refine (small_c _ q t (HQ.out.kept K1.out)).mono ?_
  rw [HS2.out]
  rintro e w2 ⟨rfl, hk⟩
  clear a0 a1 a2 a3 a4 b0 b1 b2 b3 b4 lA lB
  have K2 := Lib.hid (K1.out.trans hk)
  have KA2 := Lib.hid (KA1.out.trans hk)
  have HT2 := Lib.hid (HT1.out.kept hk)
  clear hk
  have a0 := HT2.out.a0
  have a1 := HT2.out.a1
  have a2 := HT2.out.a2
  have a3 := HT2.out.a3
  have a4 := HT2.out.a4
  have b0 := HT2.out.c0
  have b1 := HT2.out.c1
  have b2 := HT2.out.c2
  have b3 := HT2.out.c3
  have b4 := HT2.out.c4
  have lA : w.heap.size < w2.heap.size := by have := KA2.out.size; simp at this; omega
  have lB : w.heap.size + 1 < w2.heap.size := by have := KA2.out.size; simp at this; omega
  go_wp2_with fail
  refine (diff_c _ p q s t (HP.out.kept K2.out) (HQ.out.kept K2.out)).mono ?_
  rintro e w3 ⟨x, rfl, hl, hk⟩
  clear a0 a1 a2 a3 a4 b0 b1 b2 b3 b4 lA lB
  have K3 := Lib.hid (K2.out.trans hk)
  have KA3 := Lib.hid (KA2.out.trans hk)
  have HT3 := Lib.hid (HT2.out.kept hk)
  have HX3 := Lib.hid (hl)
  clear hk
  have a0 := HT3.out.a0
  have a1 := HT3.out.a1
  have a2 := HT3.out.a2
  have a3 := HT3.out.a3
  have a4 := HT3.out.a4
  have b0 := HT3.out.c0
  have b1 := HT3.out.c1
  have b2 := HT3.out.c2
  have b3 := HT3.out.c3
  have b4 := HT3.out.c4
  have lA : w.heap.size < w3.heap.size := by have := KA3.out.size; simp at this; omega
  have lB : w.heap.size + 1 < w3.heap.size := by have := KA3.out.size; simp at this; omega
  clear hl
  go_wp2_with fail
  refine (rdiff_c _ p q s t (HP.out.kept K3.out) (HQ.out.kept K3.out)).mono ?_
  rintro e w4 ⟨y, rfl, hl, hk⟩
  clear a0 a1 a2 a3 a4 b0 b1 b2 b3 b4 lA lB
  have K4 := Lib.hid (K3.out.trans hk)
  have KA4 := Lib.hid (KA3.out.trans hk)
  have HT4 := Lib.hid (HT3.out.kept hk)
  have HX4 := Lib.hid (HX3.out.kept hk)
  have HY4 := Lib.hid (hl)
  clear hk
  have a0 := HT4.out.a0
  have a1 := HT4.out.a1
  have a2 := HT4.out.a2
  have a3 := HT4.out.a3
  have a4 := HT4.out.a4
  have b0 := HT4.out.c0
  have b1 := HT4.out.c1
  have b2 := HT4.out.c2
  have b3 := HT4.out.c3
  have b4 := HT4.out.c4
  have lA : w.heap.size < w4.heap.size := by have := KA4.out.size; simp at this; omega
  have lB : w.heap.size + 1 < w4.heap.size := by have := KA4.out.size; simp at this; omega
  clear hl
  go_wp2_with fail
  refine (swords_c _ p q s t f (HP.out.kept K4.out) (HQ.out.kept K4.out)).mono ?_
  rintro e w5 ⟨x2, rfl, hl, hk⟩
  clear a0 a1 a2 a3 a4 b0 b1 b2 b3 b4 lA lB
  have K5 := Lib.hid (K4.out.trans hk)
  have KA5 := Lib.hid (KA4.out.trans hk)
  have HT5 := Lib.hid (HT4.out.kept hk)
  have HX5 := Lib.hid (HX4.out.kept hk)
  have HY5 := Lib.hid (HY4.out.kept hk)
  have HX2_5 := Lib.hid (hl)
  clear hk
  have a0 := HT5.out.a0
  have a1 := HT5.out.a1
  have a2 := HT5.out.a2
  have a3 := HT5.out.a3
  have a4 := HT5.out.a4
  have b0 := HT5.out.c0
  have b1 := HT5.out.c1
  have b2 := HT5.out.c2
  have b3 := HT5.out.c3
  have b4 := HT5.out.c4
  have lA : w.heap.size < w5.heap.size := by have := KA5.out.size; simp at this; omega
  have lB : w.heap.size + 1 < w5.heap.size := by have := KA5.out.size; simp at this; omega
  clear hl
  go_wp2_with fail
  refine (rwords_c _ p q s t f (HP.out.kept K5.out) (HQ.out.kept K5.out)).mono ?_
  rintro e w6 ⟨y2, rfl, hl, hk⟩
  clear a0 a1 a2 a3 a4 b0 b1 b2 b3 b4 lA lB
  have K6 := Lib.hid (K5.out.trans hk)
  have KA6 := Lib.hid (KA5.out.trans hk)
  have HT6 := Lib.hid (HT5.out.kept hk)
  have HX6 := Lib.hid (HX5.out.kept hk)
  have HY6 := Lib.hid (HY5.out.kept hk)
  have HX2_6 := Lib.hid (HX2_5.out.kept hk)
  have HY2_6 := Lib.hid (hl)
  clear hk
  have a0 := HT6.out.a0
  have a1 := HT6.out.a1
  have a2 := HT6.out.a2
  have a3 := HT6.out.a3
  have a4 := HT6.out.a4
  have b0 := HT6.out.c0
  have b1 := HT6.out.c1
  have b2 := HT6.out.c2
  have b3 := HT6.out.c3
  have b4 := HT6.out.c4
  have lA : w.heap.size < w6.heap.size := by have := KA6.out.size; simp at this; omega
  have lB : w.heap.size + 1 < w6.heap.size := by have := KA6.out.size; simp at this; omega
  clear hl
  go_wp2_with fail
  refine (cut_c _ p s a b (HP.out.kept K6.out)).mono ?_
  rintro e w7 ⟨q1, rfl, hl, hk⟩
  clear a0 a1 a2 a3 a4 b0 b1 b2 b3 b4 lA lB
  have K7 := Lib.hid (K6.out.trans hk)
  have KA7 := Lib.hid (KA6.out.trans hk)
  have HT7 := Lib.hid (HT6.out.kept hk)
  have HX7 := Lib.hid (HX6.out.kept hk)
  have HY7 := Lib.hid (HY6.out.kept hk)
  have HX2_7 := Lib.hid (HX2_6.out.kept hk)
  have HY2_7 := Lib.hid (HY2_6.out.kept hk)
  have HC7 := Lib.hid (hl)
  clear hk
  have a0 := HT7.out.a0
  have a1 := HT7.out.a1
  have a2 := HT7.out.a2
  have a3 := HT7.out.a3
  have a4 := HT7.out.a4
  have b0 := HT7.out.c0
  have b1 := HT7.out.c1
  have b2 := HT7.out.c2
  have b3 := HT7.out.c3
  have b4 := HT7.out.c4
  have lA : w.heap.size < w7.heap.size := by have := KA7.out.size; simp at this; omega
  have lB : w.heap.size + 1 < w7.heap.size := by have := KA7.out.size; simp at this; omega
  clear hl
  go_wp2_with fail
  refine (rcut_c _ p s a b (HP.out.kept (K7.out.alloc _))).mono ?_
  rintro e w8 ⟨q2, rfl, hl, hk⟩
  clear a0 a1 a2 a3 a4 b0 b1 b2 b3 b4 lA lB
  have hkk := ((Kept.refl w7).alloc _).trans hk
  have K8 := Lib.hid (K7.out.trans hkk)
  have KA8 := Lib.hid (KA7.out.trans hkk)
  have HT8 := Lib.hid (HT7.out.kept hkk)
  have HX8 := Lib.hid (HX7.out.kept hkk)
  have HY8 := Lib.hid (HY7.out.kept hkk)
  have HX2_8 := Lib.hid (HX2_7.out.kept hkk)
  have HY2_8 := Lib.hid (HY2_7.out.kept hkk)
  have HC8 := Lib.hid (HC7.out.kept hkk)
  have HD8 := Lib.hid (hl)
  have BC8 := Lib.hid ((five_new w7 _ _ _ _ _).kept hk)
  clear hk hkk
  have a0 := HT8.out.a0
  have a1 := HT8.out.a1
  have a2 := HT8.out.a2
  have a3 := HT8.out.a3
  have a4 := HT8.out.a4
  have b0 := HT8.out.c0
  have b1 := HT8.out.c1
  have b2 := HT8.out.c2
  have b3 := HT8.out.c3
  have b4 := HT8.out.c4
  have lA : w.heap.size < w8.heap.size := by have := KA8.out.size; simp at this; omega
  have lB : w.heap.size + 1 < w8.heap.size := by have := KA8.out.size; simp at this; omega
  clear hl
  go_wp2_with fail
  refine (text_c _ p s f (HP.out.kept (K8.out.alloc _))).mono ?_
  rintro e w9 ⟨rfl, hk⟩
  clear a0 a1 a2 a3 a4 b0 b1 b2 b3 b4 lA lB
  have hkk := ((Kept.refl w8).alloc _).trans hk
  have K9 := Lib.hid (K8.out.trans hkk)
  have KA9 := Lib.hid (KA8.out.trans hkk)
  have HT9 := Lib.hid (HT8.out.kept hkk)
  have HX9 := Lib.hid (HX8.out.kept hkk)
  have HY9 := Lib.hid (HY8.out.kept hkk)
  have HX2_9 := Lib.hid (HX2_8.out.kept hkk)
  have HY2_9 := Lib.hid (HY2_8.out.kept hkk)
  have HC9 := Lib.hid (HC8.out.kept hkk)
  have HD9 := Lib.hid (HD8.out.kept hkk)
  have BC9 := Lib.hid (BC8.out.kept hkk)
  have BD9 := Lib.hid ((five_new w8 _ _ _ _ _).kept hk)
  clear hk hkk
  have a0 := HT9.out.a0
  have a1 := HT9.out.a1
  have a2 := HT9.out.a2
  have a3 := HT9.out.a3
  have a4 := HT9.out.a4
  have b0 := HT9.out.c0
  have b1 := HT9.out.c1
  have b2 := HT9.out.c2
  have b3 := HT9.out.c3
  have b4 := HT9.out.c4
  have lA : w.heap.size < w9.heap.size := by have := KA9.out.size; simp at this; omega
  have lB : w.heap.size + 1 < w9.heap.size := by have := KA9.out.size; simp at this; omega
  go_wp2_with fail
  refine (rtext_c _ p s f (HP.out.kept K9.out)).mono ?_
  rintro e w10 ⟨rfl, hk⟩
  clear a0 a1 a2 a3 a4 b0 b1 b2 b3 b4 lA lB
  have K10 := Lib.hid (K9.out.trans hk)
  have KA10 := Lib.hid (KA9.out.trans hk)
  have HT10 := Lib.hid (HT9.out.kept hk)
  have HX10 := Lib.hid (HX9.out.kept hk)
  have HY10 := Lib.hid (HY9.out.kept hk)
  have HX2_10 := Lib.hid (HX2_9.out.kept hk)
  have HY2_10 := Lib.hid (HY2_9.out.kept hk)
  have HC10 := Lib.hid (HC9.out.kept hk)
  have HD10 := Lib.hid (HD9.out.kept hk)
  have BC10 := Lib.hid (BC9.out.kept hk)
  have BD10 := Lib.hid (BD9.out.kept hk)
  clear hk
  have a0 := HT10.out.a0
  have a1 := HT10.out.a1
  have a2 := HT10.out.a2
  have a3 := HT10.out.a3
  have a4 := HT10.out.a4
  have b0 := HT10.out.c0
  have b1 := HT10.out.c1
  have b2 := HT10.out.c2
  have b3 := HT10.out.c3
  have b4 := HT10.out.c4
  have lA : w.heap.size < w10.heap.size := by have := KA10.out.size; simp at this; omega
  have lB : w.heap.size + 1 < w10.heap.size := by have := KA10.out.size; simp at this; omega

  clear a0 a1 a2 a3 a4 b0 b1 b2 b3 b4 lA lB
  obtain ⟨xa, xc, rfl, xr⟩ := HX10.out
  obtain ⟨ya, yc, rfl, yr⟩ := HY10.out
  obtain ⟨za, zc, rfl, zr⟩ := HX2_10.out
  obtain ⟨va, vc, rfl, vr⟩ := HY2_10.out
  have C1 : Hid (∀ W, Kept w10 W → Calls Try.prog 32 #[.slice xa (diffL s t).length xc, .slice ya (diffL s t).length yc] W fun e w' => e = .returned (.bool true) ∧ Kept W w') := fun W hW => by
    have h := numbers_c W xa ya _ _ xc yc _ _ (xr.kept hW) (yr.kept hW)
    rw [decide_eq_true ⟨rfl, fun i _ => rfl⟩] at h; exact h
  have C2 : Hid (∀ W, Kept w10 W → Calls Try.prog 32 #[.slice za (wordsL s t f).length zc, .slice va (wordsL s t f).length vc] W fun e w' => e = .returned (.bool true) ∧ Kept W w') := fun W hW => by
    have h := numbers_c W za va _ _ zc vc _ _ (zr.kept hW) (vr.kept hW)
    rw [decide_eq_true ⟨rfl, fun i _ => rfl⟩] at h; exact h
  have C3 : Hid (∀ W, Kept w10 W → Calls Try.prog 19 #[.agg #[Value.int .i64 (cutR s a b).fr, .int .i64 (cutR s a b).up, .slice q1.aw (cutR s a b).nw q1.cw, .slice q1.at' (cutR s a b).nt q1.ct, .slice q1.ac (cutR s a b).nc q1.cc], .agg #[Value.int .i64 (cutR s a b).fr, .int .i64 (cutR s a b).up, .slice q2.aw (cutR s a b).nw q2.cw, .slice q2.at' (cutR s a b).nt q2.ct, .slice q2.ac (cutR s a b).nc q2.cc]] W fun e w' => e = .returned (.bool true) ∧ Kept W w') := fun W hW => by
    have h := rsame_c W q1 q2 _ _ (HC10.out.kept hW) (HD10.out.kept hW) HU.out
    rw [decide_eq_true (same_refl _)] at h; exact h
  have C4 : Hid (∀ W, Kept w10 W → Calls Try.prog 23 #[.agg #[Value.int .i64 s.fr, .int .i64 s.up, .slice p.aw s.nw p.cw, .slice p.at' s.nt p.ct, .slice p.ac s.nc p.cc]] W fun e w' => e = .returned (.bool (decide (Right s))) ∧ Kept W w') := fun W hW => right_c W p s (HP.out.kept (K10.out.trans hW))
  have C5 : Hid (∀ W, Kept w10 W → Calls Try.prog 33 #[.agg #[Value.int .i64 s.fr, .int .i64 s.up, .slice p.aw s.nw p.cw, .slice p.at' s.nt p.ct, .slice p.ac s.nc p.cc]] W fun e w' => e = .returned (.bool (decide (Right s))) ∧ Kept W w') := fun W hW => rright_c W p s (HP.out.kept (K10.out.trans hW))
  have C6 : Hid (∀ W, Kept w10 W → Calls Try.prog 25 #[.agg #[Value.int .i64 s.fr, .int .i64 s.up, .slice p.aw s.nw p.cw, .slice p.at' s.nt p.ct, .slice p.ac s.nc p.cc], .agg #[Value.int .i64 t.fr, .int .i64 t.up, .slice q.aw t.nw q.cw, .slice q.at' t.nt q.ct, .slice q.ac t.nc q.cc]] W fun e w' => e = .returned (.bool (decide (Same s t))) ∧ Kept W w') := fun W hW => same_c W p q s t (HP.out.kept (K10.out.trans hW)) (HQ.out.kept (K10.out.trans hW))
  have C7 : Hid (∀ W, Kept w10 W → Calls Try.prog 19 #[.agg #[Value.int .i64 s.fr, .int .i64 s.up, .slice p.aw s.nw p.cw, .slice p.at' s.nt p.ct, .slice p.ac s.nc p.cc], .agg #[Value.int .i64 t.fr, .int .i64 t.up, .slice q.aw t.nw q.cw, .slice q.at' t.nt q.ct, .slice q.ac t.nc q.cc]] W fun e w' => e = .returned (.bool (decide (Same s t))) ∧ Kept W w') := fun W hW => rsame_c W p q s t (HP.out.kept (K10.out.trans hW)) (HQ.out.kept (K10.out.trans hW)) HS0.out.2.2.2
  have HSS := Lib.hid (And.intro HT10.out (And.intro BC10.out BD10.out))
  clear xr yr zr vr HX10 HY10 HX2_10 HY2_10 HC10 HD10 HU HT10 BC10 BD10
  clear HX3 HX4 HX5 HX6 HX7 HX8 HX9 HY4 HY5 HY6 HY7 HY8 HY9 HX2_5 HX2_6 HX2_7 HX2_8 HX2_9 HY2_6 HY2_7 HY2_8 HY2_9 HC7 HC8 HC9 HD8 HD9 BC8 BC9 BD9 HT0 HT1 HT2 HT3 HT4 HT5 HT6 HT7 HT8 HT9 K0 K1 K2 K3 K4 K5 K6 K7 K8 K9 KA1 KA2 KA3 KA4 KA5 KA6 KA7 KA8 KA9 KA10
  generalize decide (Right s) = B1 at C4 C5
  generalize decide (Same s t) = B2 at C6 C7
  generalize (diffL s t).length = n1 at C1 ⊢
  generalize (wordsL s t f).length = n2 at C2 ⊢
  generalize pairE s t = E1
  generalize wordsE s t f = E2
  generalize cutE s a b = E3
  generalize textE s f = E4
  generalize textR s f = X
  generalize cutR s a b = u at C3 HSS ⊢
  have HS : Hid (∀ W, Kept w10 W → W.cell? ⟨w.heap.size, 0, none⟩ = some (Value.int .i64 s.fr) ∧ W.cell? ⟨w.heap.size, 1, none⟩ = some (.int .i64 s.up) ∧ W.cell? ⟨w.heap.size, 2, none⟩ = some (.slice p.aw s.nw p.cw) ∧ W.cell? ⟨w.heap.size, 3, none⟩ = some (.slice p.at' s.nt p.ct) ∧ W.cell? ⟨w.heap.size, 4, none⟩ = some (.slice p.ac s.nc p.cc) ∧ W.cell? ⟨w.heap.size + 1, 0, none⟩ = some (Value.int .i64 t.fr) ∧ W.cell? ⟨w.heap.size + 1, 1, none⟩ = some (.int .i64 t.up) ∧ W.cell? ⟨w.heap.size + 1, 2, none⟩ = some (.slice q.aw t.nw q.cw) ∧ W.cell? ⟨w.heap.size + 1, 3, none⟩ = some (.slice q.at' t.nt q.ct) ∧ W.cell? ⟨w.heap.size + 1, 4, none⟩ = some (.slice q.ac t.nc q.cc) ∧ W.cell? ⟨w7.heap.size, 0, none⟩ = some (Value.int .i64 u.fr) ∧ W.cell? ⟨w7.heap.size, 1, none⟩ = some (.int .i64 u.up) ∧ W.cell? ⟨w7.heap.size, 2, none⟩ = some (.slice q1.aw u.nw q1.cw) ∧ W.cell? ⟨w7.heap.size, 3, none⟩ = some (.slice q1.at' u.nt q1.ct) ∧ W.cell? ⟨w7.heap.size, 4, none⟩ = some (.slice q1.ac u.nc q1.cc) ∧ W.cell? ⟨w8.heap.size, 0, none⟩ = some (Value.int .i64 u.fr) ∧ W.cell? ⟨w8.heap.size, 1, none⟩ = some (.int .i64 u.up) ∧ W.cell? ⟨w8.heap.size, 2, none⟩ = some (.slice q2.aw u.nw q2.cw) ∧ W.cell? ⟨w8.heap.size, 3, none⟩ = some (.slice q2.at' u.nt q2.ct) ∧ W.cell? ⟨w8.heap.size, 4, none⟩ = some (.slice q2.ac u.nc q2.cc)) := fun W hW => by
    obtain ⟨h1, h2, h3⟩ := HSS.out
    have h1 := h1.kept hW
    obtain ⟨d0, d1, d2, d3, d4⟩ := h2.kept hW
    obtain ⟨e0, e1, e2, e3, e4⟩ := h3.kept hW
    exact ⟨h1.a0, h1.a1, h1.a2, h1.a3, h1.a4, h1.c0, h1.c1, h1.c2, h1.c3, h1.c4, d0, d1, d2, d3, d4, e0, e1, e2, e3, e4⟩
  have J0 : Hid (Kept w10 w10) := Kept.refl _
  go_wp2_with fail
  go_region_held3 (fun W => W.cell? ⟨w.heap.size, 0, none⟩ = some (Value.int .i64 s.fr) ∧ W.cell? ⟨w.heap.size, 1, none⟩ = some (.int .i64 s.up) ∧ W.cell? ⟨w.heap.size, 2, none⟩ = some (.slice p.aw s.nw p.cw) ∧ W.cell? ⟨w.heap.size, 3, none⟩ = some (.slice p.at' s.nt p.ct) ∧ W.cell? ⟨w.heap.size, 4, none⟩ = some (.slice p.ac s.nc p.cc) ∧ W.cell? ⟨w.heap.size + 1, 0, none⟩ = some (Value.int .i64 t.fr) ∧ W.cell? ⟨w.heap.size + 1, 1, none⟩ = some (.int .i64 t.up) ∧ W.cell? ⟨w.heap.size + 1, 2, none⟩ = some (.slice q.aw t.nw q.cw) ∧ W.cell? ⟨w.heap.size + 1, 3, none⟩ = some (.slice q.at' t.nt q.ct) ∧ W.cell? ⟨w.heap.size + 1, 4, none⟩ = some (.slice q.ac t.nc q.cc) ∧ W.cell? ⟨w7.heap.size, 0, none⟩ = some (Value.int .i64 u.fr) ∧ W.cell? ⟨w7.heap.size, 1, none⟩ = some (.int .i64 u.up) ∧ W.cell? ⟨w7.heap.size, 2, none⟩ = some (.slice q1.aw u.nw q1.cw) ∧ W.cell? ⟨w7.heap.size, 3, none⟩ = some (.slice q1.at' u.nt q1.ct) ∧ W.cell? ⟨w7.heap.size, 4, none⟩ = some (.slice q1.ac u.nc q1.cc) ∧ W.cell? ⟨w8.heap.size, 0, none⟩ = some (Value.int .i64 u.fr) ∧ W.cell? ⟨w8.heap.size, 1, none⟩ = some (.int .i64 u.up) ∧ W.cell? ⟨w8.heap.size, 2, none⟩ = some (.slice q2.aw u.nw q2.cw) ∧ W.cell? ⟨w8.heap.size, 3, none⟩ = some (.slice q2.at' u.nt q2.ct) ∧ W.cell? ⟨w8.heap.size, 4, none⟩ = some (.slice q2.ac u.nc q2.cc))
    (first | exact HS.out _ J8.out | exact HS.out _ J7.out | exact HS.out _ J6.out | exact HS.out _ J5.out | exact HS.out _ J4.out | exact HS.out _ J3.out | exact HS.out _ J2.out | exact HS.out _ J1.out | exact HS.out _ J0.out | exact HS.out _ J0.out.drew)
    (first
      | (go_at_call 20; have _hj := J7; refine (awake_c _).mono ?_; rintro e z8 ⟨rfl, hk⟩; have J8 := Lib.hid (J7.out.trans hk); clear hk)
      | (go_at_call 19; have _hj := J6; refine (C7.out _ J6.out).mono ?_; rintro e z7 ⟨rfl, hk⟩; have J7 := Lib.hid (J6.out.trans hk); clear hk)
      | (go_at_call 25; have _hj := J5; refine (C6.out _ J5.out).mono ?_; rintro e z6 ⟨rfl, hk⟩; have J6 := Lib.hid (J5.out.trans hk); clear hk)
      | (go_at_call 33; have _hj := J4; refine (C5.out _ J4.out).mono ?_; rintro e z5 ⟨rfl, hk⟩; have J5 := Lib.hid (J4.out.trans hk); clear hk)
      | (go_at_call 23; have _hj := J3; refine (C4.out _ J3.out).mono ?_; rintro e z4 ⟨rfl, hk⟩; have J4 := Lib.hid (J3.out.trans hk); clear hk)
      | (go_at_call 19; have _hj := J2; refine (C3.out _ J2.out).mono ?_; rintro e z3 ⟨rfl, hk⟩; have J3 := Lib.hid (J2.out.trans hk); clear hk)
      | (go_at_call 32; have _hj := J1; refine (C2.out _ J1.out).mono ?_; rintro e z2 ⟨rfl, hk⟩; have J2 := Lib.hid (J1.out.trans hk); clear hk)
      | (go_at_call 32; refine (C1.out _ (by first | exact J0.out | exact J0.out.drew)).mono ?_; rintro e z1 ⟨rfl, hk⟩; have J1 : Hid (Kept w10 z1) := (by first | exact J0.out.trans hk | exact J0.out.drew.trans hk); clear hk))
  all_goals
    go_wp2_with fail
    go_ret
    exact ⟨rfl, K10.out.trans J8.out⟩

set_option maxRecDepth 100000 in
theorem Tells_w (p q : Pl) (s t : Sn) (f a b : Int) (w : World) (hp : Snp w p s) (hq : Snp w q t) (_wf : (Lit.int .i64 f).wf = true) (_wa : (Lit.int .i64 a).wf = true) (_wb : (Lit.int .i64 b).wf = true) :
    Calls Try.prog 6 #[.agg #[Value.int .i64 s.fr, .int .i64 s.up, .slice p.aw s.nw p.cw, .slice p.at' s.nt p.ct, .slice p.ac s.nc p.cc], .agg #[Value.int .i64 t.fr, .int .i64 t.up, .slice q.aw t.nw q.cw, .slice q.at' t.nt q.ct, .slice q.ac t.nc q.cc], .int .i64 f, .int .i64 a, .int .i64 b] w fun e w' => e = .returned (.bool true) ∧ Kept w w' := by
  by_cases h1 : smallP s
  · by_cases h2 : smallP t
    · exact Tells_yes p q s t f a b w hp hq h1 h2
    · have HP := Lib.hid hp
      have HQ := Lib.hid hq
      have HS1 := Lib.hid (decide_eq_true h1)
      have HS2 := Lib.hid (decide_eq_false h2)
      have K0 : Hid (Kept w ((w.alloc (.cells #[Value.int .i64 s.fr, .int .i64 s.up, .slice p.aw s.nw p.cw, .slice p.at' s.nt p.ct, .slice p.ac s.nc p.cc] 56)).alloc (.cells #[Value.int .i64 t.fr, .int .i64 t.up, .slice q.aw t.nw q.cw, .slice q.at' t.nt q.ct, .slice q.ac t.nc q.cc] 56))) := ((Kept.refl w).alloc _).alloc _
      have HT0 := Lib.hid (two_new w p q s t)
      clear hp hq h1 h2
      go_enter Try.func6, Try.ntmps6
      go_wp2_with fail
      refine (small_c _ p s (HP.out.kept K0.out)).mono ?_
      rw [HS1.out]
      rintro e w1 ⟨rfl, hk⟩
      have K1 := Lib.hid (K0.out.trans hk)
      have b0 := (HT0.out.kept hk).c0
      have b1 := (HT0.out.kept hk).c1
      have b2 := (HT0.out.kept hk).c2
      have b3 := (HT0.out.kept hk).c3
      have b4 := (HT0.out.kept hk).c4
      clear hk
      go_wp2_with fail
      refine (small_c _ q t (HQ.out.kept K1.out)).mono ?_
      rw [HS2.out]
      rintro e w2 ⟨rfl, hk⟩
      have K2 := Lib.hid (K1.out.trans hk)
      clear hk b0 b1 b2 b3 b4
      go_wp2_with (go_at_call 20; refine (awake_c _).mono ?_; rintro e w9 ⟨rfl, hk9⟩; have K9 := Lib.hid hk9; clear hk9)
      go_ret
      exact ⟨rfl, K2.out.trans K9.out⟩
  · have HP := Lib.hid hp
    have K0 : Hid (Kept w ((w.alloc (.cells #[Value.int .i64 s.fr, .int .i64 s.up, .slice p.aw s.nw p.cw, .slice p.at' s.nt p.ct, .slice p.ac s.nc p.cc] 56)).alloc (.cells #[Value.int .i64 t.fr, .int .i64 t.up, .slice q.aw t.nw q.cw, .slice q.at' t.nt q.ct, .slice q.ac t.nc q.cc] 56))) := ((Kept.refl w).alloc _).alloc _
    have HS1 := Lib.hid (decide_eq_false h1)
    clear hp hq h1
    go_enter Try.func6, Try.ntmps6
    go_wp2_with fail
    refine (small_c _ p s (HP.out.kept K0.out)).mono ?_
    rw [HS1.out]
    rintro e w1 ⟨rfl, hk⟩
    have K1 := Lib.hid (K0.out.trans hk)
    clear hk
    go_wp2_with (go_at_call 20; refine (awake_c _).mono ?_; rintro e w9 ⟨rfl, hk9⟩; have K9 := Lib.hid hk9; clear hk9)
    go_ret
    exact ⟨rfl, K1.out.trans K9.out⟩

end Go.Proofs.Ytcjadneamacilaa.C

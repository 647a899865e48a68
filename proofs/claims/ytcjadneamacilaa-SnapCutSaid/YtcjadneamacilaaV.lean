/- SnapCut's walk. -/
import Derived.Test.YtcjadneamacilaaV0
import Derived.Test.YtcjadneamacilaaN
import Derived.Deep.RegionLaw
import Derived.Deep.CutBlock
namespace Go.Proofs.Ytcjadneamacilaa.C
open Go.RowKit Go.Shelf

theorem cutOf_text (s : Sn) (k0 m : Nat) (f : Int) (h : Right s) (hkm : k0 + m ≤ s.nw) (h1 : s.fr + k0 ≤ f) (h2 : f < s.fr + k0 + m) : textR (cutOf s k0 m) f = textR s f ∧ textE (cutOf s k0 m) f = 0 ∧ textE s f = 0 := by
  have hr := h.1.2.2.2.1
  have hE : textE s f = 0 := by unfold textE; rw [if_neg (fun x => x h), if_pos ⟨by omega, by omega⟩]
  have hE' : textE (cutOf s k0 m) f = 0 := by unfold textE; rw [if_neg (fun x => x (cut_right h hkm)), if_pos ⟨by simp only [cutOf]; omega, by simp only [cutOf]; omega⟩]
  refine ⟨?_, hE', hE⟩
  rw [textR, textR, if_pos hE, if_pos hE']
  have e : (f - s.fr).toNat = k0 + (f - (cutOf s k0 m).fr).toNat := by simp only [cutOf]; omega
  rw [e]
  rfl
theorem cutOf_out (s : Sn) (k0 m : Nat) (f : Int) (h : Right s) (hkm : k0 + m ≤ s.nw) (h1 : ¬ (s.fr + k0 ≤ f ∧ f < s.fr + k0 + m)) : textE (cutOf s k0 m) f = 1 := by
  unfold textE; rw [if_neg (fun x => x (cut_right h hkm)), if_neg (fun hh => h1 (by simp only [cutOf] at hh; omega))]

set_option maxRecDepth 100000 in
set_option maxHeartbeats 1000000 in
theorem Cut_no (p : Pl) (s : Sn) (a b f : Int) (w : World) (hp : Snp w p s) (h1 : smallP s) (hc : cutE s a b ≠ 0) :
    Calls Try.prog 5 #[.agg #[Value.int .i64 s.fr, .int .i64 s.up, .slice p.aw s.nw p.cw, .slice p.at' s.nt p.ct, .slice p.ac s.nc p.cc], .int .i64 a, .int .i64 b, .int .i64 f] w fun e w' => e = .returned (.bool true) ∧ Kept w w' := by
  have HP := Lib.hid hp
  have HS1 := Lib.hid (decide_eq_true h1)
  have K1 : Hid (Kept w (w.alloc (.cells #[Value.int .i64 s.fr, .int .i64 s.up, .slice p.aw s.nw p.cw, .slice p.at' s.nt p.ct, .slice p.ac s.nc p.cc] 56))) := (Kept.refl w).alloc _
  have hr : cutR s a b = Sn.nil := by rw [cutR, if_neg hc]
  have HR := Lib.hid hr
  have bE : (cutE s a b != 0) = true := by simpa using hc
  have hx : ¬ Right s ∨ a < s.fr ∨ s.up < b ∨ b < a := by
    by_cases hR : Right s
    · right; unfold cutE at hc; rw [if_neg (fun x => x hR)] at hc
      have : ¬ (s.fr ≤ a ∧ b ≤ s.up ∧ a ≤ b) := fun hh => hc (if_pos hh)
      omega
    · exact .inl hR
  have HX := Lib.hid hx
  have HC := Lib.hid hc
  clear hp h1 hr hx hc
  go_enter Try.func5, Try.ntmps5
  go_wp2_with fail
  refine (small_c _ p s (HP.out.kept K1.out)).mono ?_
  rw [HS1.out]
  rintro e w1 ⟨rfl, hk⟩
  have K2 := Lib.hid (K1.out.trans hk)
  have hl1 : w.heap.size < w1.heap.size := Nat.lt_of_lt_of_le (by simp) hk.size
  have a0 := hk.cell (p := ⟨w.heap.size, 0, none⟩) (v := .int .i64 s.fr) (by simp)
  have a1 := hk.cell (p := ⟨w.heap.size, 1, none⟩) (v := .int .i64 s.up) (by simp)
  have a2 := hk.cell (p := ⟨w.heap.size, 2, none⟩) (v := .slice p.aw s.nw p.cw) (by simp)
  have a3 := hk.cell (p := ⟨w.heap.size, 3, none⟩) (v := .slice p.at' s.nt p.ct) (by simp)
  have a4 := hk.cell (p := ⟨w.heap.size, 4, none⟩) (v := .slice p.ac s.nc p.cc) (by simp)
  clear hk
  go_wp2_with fail
  refine (cut_bad _ p s a b (HP.out.kept K2.out) HC.out).mono ?_
  rintro e w2 ⟨rfl, hk⟩
  have K3 := Lib.hid (K2.out.trans hk)
  have hl2 : w.heap.size < w2.heap.size := Nat.lt_of_lt_of_le hl1 hk.size
  have d0 := hk.cell a0
  have d1 := hk.cell a1
  have d2 := hk.cell a2
  have d3 := hk.cell a3
  have d4 := hk.cell a4
  clear hk a0 a1 a2 a3 a4 hl1
  by_cases hR : Right s
  · have HRt := Lib.hid (decide_eq_true hR)
    clear hR
    by_cases ha : a < s.fr
    · go_wp2_with (first | (go_at_call 23; refine (right_c _ p s (HP.out.kept (by first | exact K3.out | exact K3.out.alloc _))).mono ?_; rw [HRt.out]; rintro e w3 ⟨rfl, hk3⟩; have K4 := Lib.hid ((K3.out.alloc (.cells #[.int .i64 0, .int .i64 0, .slice none 0 0, .slice none 0 0, .slice none 0 0] 56)).trans hk3); have c2 := hk3.cell (p := ⟨w2.heap.size, 2, none⟩) (v := .slice none 0 0) (by simp); have f0 := (((Kept.refl w2).alloc _).trans hk3).cell d0; have f1 := (((Kept.refl w2).alloc _).trans hk3).cell d1; clear hk3) | (go_at_call 20; refine (awake_c _).mono ?_; rintro e w9 ⟨rfl, hk9⟩; have K9 := Lib.hid hk9; clear hk9)); go_ret; exact ⟨rfl, K4.out.trans K9.out⟩
    · by_cases hb : s.up < b
      · go_wp2_with (first | (go_at_call 23; refine (right_c _ p s (HP.out.kept (by first | exact K3.out | exact K3.out.alloc _))).mono ?_; rw [HRt.out]; rintro e w3 ⟨rfl, hk3⟩; have K4 := Lib.hid ((K3.out.alloc (.cells #[.int .i64 0, .int .i64 0, .slice none 0 0, .slice none 0 0, .slice none 0 0] 56)).trans hk3); have c2 := hk3.cell (p := ⟨w2.heap.size, 2, none⟩) (v := .slice none 0 0) (by simp); have f0 := (((Kept.refl w2).alloc _).trans hk3).cell d0; have f1 := (((Kept.refl w2).alloc _).trans hk3).cell d1; clear hk3) | (go_at_call 20; refine (awake_c _).mono ?_; rintro e w9 ⟨rfl, hk9⟩; have K9 := Lib.hid hk9; clear hk9)); go_ret; exact ⟨rfl, K4.out.trans K9.out⟩
      · have hab : b < a := by rcases HX.out with h | h | h | h; exact absurd (of_decide_eq_true HRt.out) h; all_goals omega
        go_wp2_with (first | (go_at_call 23; refine (right_c _ p s (HP.out.kept (by first | exact K3.out | exact K3.out.alloc _))).mono ?_; rw [HRt.out]; rintro e w3 ⟨rfl, hk3⟩; have K4 := Lib.hid ((K3.out.alloc (.cells #[.int .i64 0, .int .i64 0, .slice none 0 0, .slice none 0 0, .slice none 0 0] 56)).trans hk3); have c2 := hk3.cell (p := ⟨w2.heap.size, 2, none⟩) (v := .slice none 0 0) (by simp); have f0 := (((Kept.refl w2).alloc _).trans hk3).cell d0; have f1 := (((Kept.refl w2).alloc _).trans hk3).cell d1; clear hk3) | (go_at_call 20; refine (awake_c _).mono ?_; rintro e w9 ⟨rfl, hk9⟩; have K9 := Lib.hid hk9; clear hk9)); go_ret; exact ⟨rfl, K4.out.trans K9.out⟩
  · have HRt := Lib.hid (decide_eq_false hR)
    clear hR
    go_wp2_with (first | (go_at_call 23; refine (right_c _ p s (HP.out.kept (by first | exact K3.out | exact K3.out.alloc _))).mono ?_; rw [HRt.out]; rintro e w3 ⟨rfl, hk3⟩; have K4 := Lib.hid ((K3.out.alloc (.cells #[.int .i64 0, .int .i64 0, .slice none 0 0, .slice none 0 0, .slice none 0 0] 56)).trans hk3); have c2 := hk3.cell (p := ⟨w2.heap.size, 2, none⟩) (v := .slice none 0 0) (by simp); have f0 := (((Kept.refl w2).alloc _).trans hk3).cell d0; have f1 := (((Kept.refl w2).alloc _).trans hk3).cell d1; clear hk3) | (go_at_call 20; refine (awake_c _).mono ?_; rintro e w9 ⟨rfl, hk9⟩; have K9 := Lib.hid hk9; clear hk9)); go_ret; exact ⟨rfl, K4.out.trans K9.out⟩

set_option maxRecDepth 100000 in
set_option maxHeartbeats 1000000 in
theorem Cut_yes (p : Pl) (s : Sn) (a b f : Int) (w : World) (hp : Snp w p s) (h1 : smallP s) (hc : cutE s a b = 0) :
    Calls Try.prog 5 #[.agg #[Value.int .i64 s.fr, .int .i64 s.up, .slice p.aw s.nw p.cw, .slice p.at' s.nt p.ct, .slice p.ac s.nc p.cc], .int .i64 a, .int .i64 b, .int .i64 f] w fun e w' => e = .returned (.bool true) ∧ Kept w w' := by
  have HS1 := Lib.hid (decide_eq_true h1)
  have K1 : Hid (Kept w (w.alloc (.cells #[Value.int .i64 s.fr, .int .i64 s.up, .slice p.aw s.nw p.cw, .slice p.at' s.nt p.ct, .slice p.ac s.nc p.cc] 56))) := (Kept.refl w).alloc _
  obtain ⟨hR, c1, c2, c3⟩ := cutE0 hc
  have h4 := hR.1.2.2.2.1
  have hr : cutR s a b = cutOf s (a - s.fr).toNat (b - a).toNat := by rw [cutR, if_pos hc]
  have efr : (cutR s a b).fr = a := by rw [hr]; simp only [cutOf]; omega
  have eup : (cutR s a b).up = b := by rw [hr]; simp only [cutOf]; omega
  have ht : Right (cutR s a b) := by rw [hr]; exact cut_right hR (by omega)
  have hin : a ≤ f → f < b → textR (cutR s a b) f = textR s f ∧ textE (cutR s a b) f = 0 ∧ textE s f = 0 := fun x y => by
    rw [hr]; exact cutOf_text s _ _ f hR (by omega) (by omega) (by omega)
  have hout : ¬ (a ≤ f ∧ f < b) → textE (cutR s a b) f = 1 := fun x => by
    rw [hr]; exact cutOf_out s _ _ f hR (by omega) (fun hh => x (by omega))
  have hcut : ∀ W, Kept w W → Calls Try.prog 26 #[.agg #[Value.int .i64 s.fr, .int .i64 s.up, .slice p.aw s.nw p.cw, .slice p.at' s.nt p.ct, .slice p.ac s.nc p.cc], .int .i64 a, .int .i64 b] W fun e w' =>
      ∃ q : Pl, e = .returned (.tuple #[.agg #[.int .i64 a, .int .i64 b, .slice q.aw (cutR s a b).nw q.cw, .slice q.at' (cutR s a b).nt q.ct, .slice q.ac (cutR s a b).nc q.cc], .int .i64 0]) ∧ Snp w' q (cutR s a b) ∧ Kept W w' := fun W hW => by
    have h := cut_c W p s a b (hp.kept hW)
    rw [efr, eup, hc] at h
    exact h
  have HP := Lib.hid hp
  have HCUT := Lib.hid hcut
  have HIN := Lib.hid hin
  have HOUT := Lib.hid hout
  have HT := Lib.hid (decide_eq_true ht)
  clear hr hR ht hin hout hp h1 hc hcut h4 c1 c2 c3
  generalize cutR s a b = t at *
  have htx : ∀ W (q : Pl), Snp W q t → Calls Try.prog 27 #[.agg #[.int .i64 a, .int .i64 b, .slice q.aw t.nw q.cw, .slice q.at' t.nt q.ct, .slice q.ac t.nc q.cc], .int .i64 f] W fun e w' => e = .returned (.tuple #[.string (textR t f), .int .i64 (textE t f)]) ∧ Kept W w' := fun W q hq => by
    have h := text_c W q t f hq; rw [efr, eup] at h; exact h
  have hrt : ∀ W (q : Pl), Snp W q t → Calls Try.prog 23 #[.agg #[.int .i64 a, .int .i64 b, .slice q.aw t.nw q.cw, .slice q.at' t.nt q.ct, .slice q.ac t.nc q.cc]] W fun e w' => e = .returned (.bool true) ∧ Kept W w' := fun W q hq => by
    have h := right_c W q t hq; rw [efr, eup, HT.out] at h; exact h
  have HTX := Lib.hid htx
  have HRT := Lib.hid hrt
  clear htx hrt efr eup HT
  go_enter Try.func5, Try.ntmps5
  go_wp2_with fail
  refine (small_c _ p s (HP.out.kept K1.out)).mono ?_
  rw [HS1.out]
  rintro e w1 ⟨rfl, hk⟩
  have K2 := Lib.hid (K1.out.trans hk)
  have hl1 : w.heap.size < w1.heap.size := Nat.lt_of_lt_of_le (by simp) hk.size
  have a0 := hk.cell (p := ⟨w.heap.size, 0, none⟩) (v := .int .i64 s.fr) (by simp)
  have a1 := hk.cell (p := ⟨w.heap.size, 1, none⟩) (v := .int .i64 s.up) (by simp)
  have a2 := hk.cell (p := ⟨w.heap.size, 2, none⟩) (v := .slice p.aw s.nw p.cw) (by simp)
  have a3 := hk.cell (p := ⟨w.heap.size, 3, none⟩) (v := .slice p.at' s.nt p.ct) (by simp)
  have a4 := hk.cell (p := ⟨w.heap.size, 4, none⟩) (v := .slice p.ac s.nc p.cc) (by simp)
  clear hk
  go_wp2_with fail
  refine (HCUT.out _ K2.out).mono ?_
  rintro e w2 ⟨q, rfl, hq, hk⟩
  have K3 := Lib.hid (K2.out.trans hk)
  have HQ := Lib.hid hq
  have hl2 : w.heap.size < w2.heap.size := Nat.lt_of_lt_of_le hl1 hk.size
  have d0 := hk.cell a0
  have d1 := hk.cell a1
  have d2 := hk.cell a2
  have d3 := hk.cell a3
  have d4 := hk.cell a4
  clear hk hq a0 a1 a2 a3 a4 hl1
  go_wp2_with fail
  refine (text_c _ p s f (HP.out.kept (K3.out.alloc _))).mono ?_
  rintro e w3 ⟨rfl, hk⟩
  have K4 := Lib.hid ((K3.out.alloc _).trans hk)
  have HQ3 := Lib.hid ((HQ.out.kept ((Kept.refl _).alloc _)).kept hk)
  have g0 := hk.cell (p := ⟨w2.heap.size, 0, none⟩) (v := .int .i64 a) (by simp)
  have g1 := hk.cell (p := ⟨w2.heap.size, 1, none⟩) (v := .int .i64 b) (by simp)
  have g2 := hk.cell (p := ⟨w2.heap.size, 2, none⟩) (v := .slice q.aw t.nw q.cw) (by simp)
  have g3 := hk.cell (p := ⟨w2.heap.size, 3, none⟩) (v := .slice q.at' t.nt q.ct) (by simp)
  have g4 := hk.cell (p := ⟨w2.heap.size, 4, none⟩) (v := .slice q.ac t.nc q.cc) (by simp)
  clear hk d0 d1 d2 d3 d4 hl2
  go_wp2_with fail
  refine (HTX.out _ q HQ3.out).mono ?_
  rintro e w4 ⟨rfl, hk⟩
  have K5 := Lib.hid (K4.out.trans hk)
  have HQ4 := Lib.hid (HQ3.out.kept hk)
  have j0 := hk.cell g0
  have j1 := hk.cell g1
  have j2 := hk.cell g2
  have j3 := hk.cell g3
  have j4 := hk.cell g4
  clear hk g0 g1 g2 g3 g4
  by_cases hi : a ≤ f ∧ f < b
  · obtain ⟨i1, i2⟩ := hi
    obtain ⟨e1, e2, e3⟩ := HIN.out i1 i2
    rw [e1, e2, e3]
    generalize textR s f = X
    clear e1 e2 e3
    go_wp2_with (first | (go_at_call 23; refine (HRT.out _ q HQ4.out).mono ?_; rintro e w5 ⟨rfl, hk5⟩; have K6 := Lib.hid (K5.out.trans hk5); have l0 := hk5.cell j0; have l1 := hk5.cell j1; clear hk5) | (go_at_call 20; refine (awake_c _).mono ?_; rintro e w9 ⟨rfl, hk9⟩; have K9 := Lib.hid hk9; clear hk9)); go_ret; exact ⟨rfl, K6.out.trans K9.out⟩
  · have e2 := HOUT.out hi
    rw [e2]
    generalize textR s f = X
    generalize textR t f = Y
    generalize textE s f = E1
    clear e2
    by_cases i1 : a ≤ f
    · have i2 : ¬ f < b := fun x => hi ⟨i1, x⟩
      clear hi
      go_wp2_with (first | (go_at_call 23; refine (HRT.out _ q HQ4.out).mono ?_; rintro e w5 ⟨rfl, hk5⟩; have K6 := Lib.hid (K5.out.trans hk5); have l0 := hk5.cell j0; have l1 := hk5.cell j1; clear hk5) | (go_at_call 20; refine (awake_c _).mono ?_; rintro e w9 ⟨rfl, hk9⟩; have K9 := Lib.hid hk9; clear hk9)); go_ret; exact ⟨rfl, K6.out.trans K9.out⟩
    · clear hi
      go_wp2_with (first | (go_at_call 23; refine (HRT.out _ q HQ4.out).mono ?_; rintro e w5 ⟨rfl, hk5⟩; have K6 := Lib.hid (K5.out.trans hk5); have l0 := hk5.cell j0; have l1 := hk5.cell j1; clear hk5) | (go_at_call 20; refine (awake_c _).mono ?_; rintro e w9 ⟨rfl, hk9⟩; have K9 := Lib.hid hk9; clear hk9)); go_ret; exact ⟨rfl, K6.out.trans K9.out⟩

set_option maxRecDepth 100000 in
theorem Cut_w (p : Pl) (s : Sn) (a b f : Int) (w : World) (hp : Snp w p s) (_wa : (Lit.int .i64 a).wf = true) (_wb : (Lit.int .i64 b).wf = true) (_wf : (Lit.int .i64 f).wf = true) :
    Calls Try.prog 5 #[.agg #[Value.int .i64 s.fr, .int .i64 s.up, .slice p.aw s.nw p.cw, .slice p.at' s.nt p.ct, .slice p.ac s.nc p.cc], .int .i64 a, .int .i64 b, .int .i64 f] w fun e w' => e = .returned (.bool true) ∧ Kept w w' := by
  by_cases h1 : smallP s
  · by_cases hc : cutE s a b = 0
    · exact Cut_yes p s a b f w hp h1 hc
    · exact Cut_no p s a b f w hp h1 hc
  · have HP := Lib.hid hp
    have K1 : Hid (Kept w (w.alloc (.cells #[Value.int .i64 s.fr, .int .i64 s.up, .slice p.aw s.nw p.cw, .slice p.at' s.nt p.ct, .slice p.ac s.nc p.cc] 56))) := (Kept.refl w).alloc _
    have HS1 := Lib.hid (decide_eq_false h1)
    clear hp h1
    go_enter Try.func5, Try.ntmps5
    go_wp2_with fail
    refine (small_c _ p s (HP.out.kept K1.out)).mono ?_
    rw [HS1.out]
    rintro e w1 ⟨rfl, hk⟩
    have K2 := Lib.hid (K1.out.trans hk)
    clear hk
    go_wp2_with (go_at_call 20; refine (awake_c _).mono ?_; rintro e w9 ⟨rfl, hk9⟩; have K9 := Lib.hid hk9; clear hk9)
    go_ret
    exact ⟨rfl, K2.out.trans K9.out⟩
end Go.Proofs.Ytcjadneamacilaa.C

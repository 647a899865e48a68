/- The reference's machine is made. -/
import Derived.Test.YtcjadneamacilaaAM
import Derived.Deep.RegionLaw
import Derived.Deep.AppendLies
namespace Go.Proofs.Ytcjadneamacilaa.C
open Go.RowKit

/-- The reference's machine. -/
structure Vc (w : World) (lo vb rm rf tb sb n cap capt : Nat) (G Q : Nat → Nat) (Z : Nat → Nat → Int) (L : Nat → Fm) : Prop where
  m0 : w.cell? ⟨vb, 0, none⟩ = some (.pointer (some ⟨rm, 0, none⟩))
  m4 : w.cell? ⟨vb, 4, none⟩ = some (.pointer (some ⟨tb, 0, none⟩))
  M : Rm w rm rf n cap G Q Z
  T : Tb w tb sb n capt L
  o : lo ≤ vb ∧ lo ≤ rm ∧ lo ≤ rf ∧ lo ≤ tb ∧ lo ≤ sb ∧ ∀ i, i < n → lo ≤ G i
  d1 : ∀ i, i < n → G i ≠ vb ∧ G i ≠ tb ∧ G i ≠ sb
  d2 : sb ≠ vb ∧ sb ≠ rm ∧ sb ≠ rf
section
variable {w w' : World} {lo vb rm rf tb sb n cap capt : Nat} {G Q : Nat → Nat} {Z Z' : Nat → Nat → Int} {L L' : Nat → Fm}
theorem Vc.kept (h : Vc w lo vb rm rf tb sb n cap capt G Q Z L) (k : Kept w w') : Vc w' lo vb rm rf tb sb n cap capt G Q Z L :=
  ⟨k.cell h.m0, k.cell h.m4, h.M.kept k, h.T.kept k, h.o, h.d1, h.d2⟩
theorem Vc.grown (h : Vc w lo vb rm rf tb sb n cap capt G Q Z L) {row : Option Nat} (g : w.grownBy w' row) (hr : ∀ k, row = some k → k < lo) : Vc w' lo vb rm rf tb sb n cap capt G Q Z L := by
  obtain ⟨o1, o2, o3, o4, o5, o6⟩ := h.o
  have ne : ∀ x, lo ≤ x → some x ≠ row := fun x hx e => by have := hr x e.symm; omega
  exact ⟨g.cell h.m0 (ne _ o1), g.cell h.m4 (ne _ o1), h.M.grown g (ne _ o2).symm (ne _ o3).symm (fun i hi => (ne _ (o6 i hi)).symm), h.T.grown g (ne _ o4).symm (ne _ o5).symm, h.o, h.d1, h.d2⟩
theorem Vc.setM (h : Vc w lo vb rm rf tb sb n cap capt G Q Z L) (hM : Rm w' rm rf n cap G Q Z') {row : Option Nat} (g : w.grownBy w' row) (hr : row = none ∨ ∃ i, i < n ∧ row = some (G i)) : Vc w' lo vb rm rf tb sb n cap capt G Q Z' L := by
  have ne : ∀ x, (∀ i, i < n → G i ≠ x) → some x ≠ row := by
    rintro x hx e
    rcases hr with hr | ⟨i, hi, hr⟩
    · rw [hr] at e; cases e
    · rw [hr] at e; injection e with e; exact hx i hi e.symm
  exact ⟨g.cell h.m0 (ne _ (fun i hi => (h.d1 i hi).1)), g.cell h.m4 (ne _ (fun i hi => (h.d1 i hi).1)), hM, h.T.grown g (ne _ (fun i hi => (h.d1 i hi).2.1)).symm (ne _ (fun i hi => (h.d1 i hi).2.2)).symm, h.o, h.d1, h.d2⟩
theorem Vc.setT (h : Vc w lo vb rm rf tb sb n cap capt G Q Z L) (hT : Tb w' tb sb n capt L') (g : w.grownBy w' (some sb)) : Vc w' lo vb rm rf tb sb n cap capt G Q Z L' := by
  have ne : ∀ x, sb ≠ x → some x ≠ some sb := fun x hx e => by injection e with e; exact hx e.symm
  exact ⟨g.cell h.m0 (ne _ h.d2.1), g.cell h.m4 (ne _ h.d2.1), h.M.grown g (ne _ h.d2.2.1).symm (ne _ h.d2.2.2).symm (fun i hi => (ne _ (fun e => (h.d1 i hi).2.2 e.symm)).symm), hT, h.o, h.d1, h.d2⟩
end

theorem vc_lo {w : World} {lo lo' vb rm rf tb sb n cap capt : Nat} {G Q : Nat → Nat} {Z : Nat → Nat → Int} {L : Nat → Fm} (h : Vc w lo vb rm rf tb sb n cap capt G Q Z L) (hl : lo' ≤ lo) : Vc w lo' vb rm rf tb sb n cap capt G Q Z L := by
  obtain ⟨o1, o2, o3, o4, o5, o6⟩ := h.o
  exact ⟨h.m0, h.m4, h.M, h.T, ⟨by omega, by omega, by omega, by omega, by omega, fun i hi => by have := o6 i hi; omega⟩, h.d1, h.d2⟩
theorem vc_set {w : World} {lo vb X rf tb sb n cap capt c4 c4' : Nat} {G Q : Nat → Nat} {Z : Nat → Nat → Int} {L : Nat → Fm} {A B : Prop} (h : Vc w lo vb X rf tb sb n cap capt G Q Z L) (i : Nat) (v : Value) (h0 : i ≠ 0) (h4 : i ≠ 4)
    (hl : vb < X ∧ X ≤ rf ∧ (∀ i, i < n → X ≤ G i ∧ G i < c4) ∧ X ≤ c4' ∧ c4' ≤ tb ∧ tb ≤ sb ∧ A ∧ B) : Vc (w.setCell ⟨vb, i, none⟩ v) lo vb X rf tb sb n cap capt G Q Z L := by
  obtain ⟨h1, h2, h3, h5, h6, h7, -⟩ := hl
  have g := grownBy_setCell w ⟨vb, i, none⟩ v
  refine ⟨?_, ?_, h.M.grown g (by simp; omega) (by simp; omega) (fun i hi => by have := h3 i hi; simp; omega), h.T.grown g (by simp; omega) (by simp; omega), h.o, h.d1, h.d2⟩
  · rw [World.cell?_setCell_other _ _ _ _ (addr_ne (.inr h0))]; exact h.m0
  · rw [World.cell?_setCell_other _ _ _ _ (addr_ne (.inr h4))]; exact h.m4

set_option maxRecDepth 100000 in
set_option maxHeartbeats 4000000 in
theorem newv_c (w : World) : Calls Try.prog 8 #[.agg #[.int .i64 8, .int .i64 1, .int .i64 0, .int .i64 0]] w fun e w' => ∃ vb rm rf tb sb cap capt G Q, e = .returned (.tuple #[.pointer (some ⟨vb, 0, none⟩), .int .i64 0]) ∧ Vc w' w.heap.size vb rm rf tb sb 8 cap capt G Q zeroZ (fun _ => fresh) ∧ Kept w w' := by
  have info3 : (Try.prog.info? 3).map (fun i => (i.zero, i.size, i.bytes)) = some (some (.int .i64 0), 1, 8) := by kernel_rfl
  obtain ⟨i3, ha, ha0, ha1, ha2⟩ := info_parts info3
  clear info3
  have info112 : (Try.prog.info? 112).map (fun i => (i.zero, i.size, i.bytes)) = some (some (.pointer none), 1, 8) := by kernel_rfl
  obtain ⟨i112, hb, hb0, hb1, hb2⟩ := info_parts info112
  clear info112
  have info115 : (Try.prog.info? 115).map (fun i => (i.zero, i.size, i.bytes)) = some (some (.pointer none), 1, 8) := by kernel_rfl
  obtain ⟨i115, hc, hc0, hc1, hc2⟩ := info_parts info115
  clear info115
  have hcfg : ∀ W, Kept (w.alloc (.cells #[.int .i64 8, .int .i64 1, .int .i64 0, .int .i64 0] 26)) W → W.cell? ⟨w.heap.size, 0, none⟩ = some (.int .i64 8) ∧ W.cell? ⟨w.heap.size, 1, none⟩ = some (.int .i64 1) ∧ W.cell? ⟨w.heap.size, 3, none⟩ = some (.int .i64 0) := fun W hW =>
    ⟨hW.cell (by simp), hW.cell (by simp), hW.cell (by simp)⟩
  have HC := Lib.hid hcfg
  have HW : Hid (Kept w (w.alloc (.cells #[.int .i64 8, .int .i64 1, .int .i64 0, .int .i64 0] 26))) := (Kept.refl w).alloc _
  have H46 : Hid (∀ W : World, Calls Try.prog 46 #[.int .i64 8] W fun e w' => ∃ rf cap G Q, e = .returned (.tuple #[.pointer (some ⟨W.heap.size, 0, none⟩), .int .i64 0]) ∧ Rm w' W.heap.size rf 8 cap G Q zeroZ ∧ W.heap.size ≤ rf ∧ (∀ i, i < 8 → W.heap.size ≤ G i) ∧ Kept W w') := fun W => rmnew_c W 8 (by omega) (by omega)
  have H48 : Hid (∀ W : World, Calls Try.prog 48 #[.int .i64 8] W fun e w' => ∃ sb cap, e = .returned (.tuple #[.pointer (some ⟨W.heap.size, 0, none⟩), .int .i64 0]) ∧ Tb w' W.heap.size sb 8 cap (fun _ => fresh) ∧ W.heap.size ≤ sb ∧ Kept W w') := fun W => rnew_c W 8 (by omega) (by omega)
  clear hcfg
  go_enter Try.func8, Try.ntmps8
  go_wp2_with fail
  have hlw : w.heap.size < (w.alloc (.cells #[.int .i64 8, .int .i64 1, .int .i64 0, .int .i64 0] 26)).heap.size := by simp
  generalize (w.alloc (.cells #[.int .i64 8, .int .i64 1, .int .i64 0, .int .i64 0] 26)) = W0 at HC HW hlw ⊢
  refine (rcheck_c _).mono ?_
  rintro e w1 ⟨rfl, hk1⟩
  go_wp2_with fail
  refine (rlive_c _).mono ?_
  rintro e w2 ⟨b1, rfl, hk2⟩
  go_wp2_with fail
  refine (rhw_c _).mono ?_
  rintro e w3 ⟨b2, rfl, hk3⟩
  have K3 := Lib.hid (hk1.trans (hk2.trans hk3))
  clear hk1 hk2 hk3
  go_upto_region 4 with fail
  have V3 : Hid (Bxs W0 (w3.alloc (.cells #[.pointer none, .pointer none, .slice none 0 0, .slice none 0 0, .pointer none, .pointer (some ⟨b1, 0, none⟩), .pointer (some ⟨b2, 0, none⟩), .slice none 0 0] 46)) w3.heap.size 8 (fun i => if i = 5 then .pointer (some ⟨b1, 0, none⟩) else if i = 6 then .pointer (some ⟨b2, 0, none⟩) else if i = 2 ∨ i = 3 ∨ i = 7 then .slice none 0 0 else .pointer none)) := by
    refine ⟨K3.out.alloc _, fun i hi => ?_, fun o => by rw [frozen?_alloc_cells]; simp [World.frozen?], K3.out.size, by simp⟩
    rw [World.cell?_alloc_new]
    match i, hi with
    | 0, _ => rfl
    | 1, _ => rfl
    | 2, _ => rfl
    | 3, _ => rfl
    | 4, _ => rfl
    | 5, _ => rfl
    | 6, _ => rfl
    | 7, _ => rfl
  generalize w3.alloc (.cells #[.pointer none, .pointer none, .slice none 0 0, .slice none 0 0, .pointer none, .pointer (some ⟨b1, 0, none⟩), .pointer (some ⟨b2, 0, none⟩), .slice none 0 0] 46) = X3 at V3 ⊢
  generalize w3.heap.size = vb at V3 ⊢
  have k0 := (HC.out _ V3.out.k).1
  go_wp2_with fail
  refine (H46.out _).mono ?_
  rintro e w4 ⟨rf, cap, G, Q, rfl, hR, hrf, hG, hk⟩
  have V4 := Lib.hid (V3.out.kept hk)
  have HR := Lib.hid hR
  have HL := Lib.hid (And.intro V3.out.lt (And.intro hrf (And.intro hG (And.intro hk.size V3.out.lo))))
  have k1 := (HC.out _ V4.out.k).2.1
  clear hR hrf hG hk k0
  go_wp2_with fail
  refine (rclock_c _).mono ?_
  rintro e w5 ⟨cb, rfl, hk⟩
  have V5 := Lib.hid (V4.out.kept hk)
  have HR5 := Lib.hid (HR.out.kept hk)
  have k0 := (HC.out _ V5.out.k).1
  have HL5 := Lib.hid hk.size
  clear hk k1
  go_wp2_with fail
  refine (H48.out _).mono ?_
  rintro e w6 ⟨sb, capt, rfl, hT, hsb, hk⟩
  have V6 := Lib.hid (V5.out.kept hk)
  have HR6 := Lib.hid (HR5.out.kept hk)
  have HT6 := Lib.hid hT
  have HL6 := Lib.hid (And.intro hk.size hsb)
  have f0 : w6.cell? ⟨vb, 0, none⟩ = some (.pointer none) := V6.out.f 0 (by omega)
  have f1 : w6.cell? ⟨vb, 1, none⟩ = some (.pointer none) := V6.out.f 1 (by omega)
  have f4 : w6.cell? ⟨vb, 4, none⟩ = some (.pointer none) := V6.out.f 4 (by omega)
  have z0 := V6.out.fz 0
  have z1 := V6.out.fz 1
  have z4 := V6.out.fz 4
  clear hT hsb hk k0
  go_upto_region 10 with fail
  have V7 := Lib.hid (((V6.out.set 0 (.pointer (some ⟨X3.heap.size, 0, none⟩))).set 1 (.pointer (some ⟨cb, 0, none⟩))).set 4 (.pointer (some ⟨w5.heap.size, 0, none⟩)))
  have hg : w6.grownBy (((w6.setCell ⟨vb, 0, none⟩ (.pointer (some ⟨X3.heap.size, 0, none⟩))).setCell ⟨vb, 1, none⟩ (.pointer (some ⟨cb, 0, none⟩))).setCell ⟨vb, 4, none⟩ (.pointer (some ⟨w5.heap.size, 0, none⟩))) (some vb) :=
    ((grownBy_setCell w6 ⟨vb, 0, none⟩ _).trans (grownBy_setCell _ ⟨vb, 1, none⟩ _)).trans (grownBy_setCell _ ⟨vb, 4, none⟩ _)
  have HLs : Hid (vb < X3.heap.size ∧ X3.heap.size ≤ rf ∧ (∀ i, i < 8 → X3.heap.size ≤ G i ∧ G i < w4.heap.size) ∧ X3.heap.size ≤ w4.heap.size ∧ w4.heap.size ≤ w5.heap.size ∧ w5.heap.size ≤ sb ∧ W0.heap.size ≤ vb ∧ X3.heap.size < w4.heap.size ∧ rf < w4.heap.size) := by
    obtain ⟨h1, h2, h3, h4, h5⟩ := HL.out
    exact ⟨h1, h2, fun i hi => ⟨h3 i hi, HR.out.lt i hi⟩, h4, HL5.out, HL6.out.2, h5, World.block_lt_of_cell? _ _ HR.out.hd, World.block_lt_of_cell? _ _ (HR.out.r 0 (by omega))⟩
  have HR7 : Hid (Rm (((w6.setCell ⟨vb, 0, none⟩ (.pointer (some ⟨X3.heap.size, 0, none⟩))).setCell ⟨vb, 1, none⟩ (.pointer (some ⟨cb, 0, none⟩))).setCell ⟨vb, 4, none⟩ (.pointer (some ⟨w5.heap.size, 0, none⟩))) X3.heap.size rf 8 cap G Q zeroZ) := by
    obtain ⟨h1, h2, h3, h4, h5, h6, h7, h8, h9⟩ := HLs.out
    exact HR6.out.grown hg (by simp; omega) (by simp; omega) (fun i hi => by have := h3 i hi; simp; omega)
  have HT7 : Hid (Tb (((w6.setCell ⟨vb, 0, none⟩ (.pointer (some ⟨X3.heap.size, 0, none⟩))).setCell ⟨vb, 1, none⟩ (.pointer (some ⟨cb, 0, none⟩))).setCell ⟨vb, 4, none⟩ (.pointer (some ⟨w5.heap.size, 0, none⟩))) w5.heap.size sb 8 capt (fun _ => fresh)) := by
    obtain ⟨h1, h2, h3, h4, h5, h6, h7, h8, h9⟩ := HLs.out
    exact HT6.out.grown hg (by simp; omega) (by simp; omega)
  clear hg f0 f1 f4 z0 z1 z4
  generalize ((w6.setCell ⟨vb, 0, none⟩ (.pointer (some ⟨X3.heap.size, 0, none⟩))).setCell ⟨vb, 1, none⟩ (.pointer (some ⟨cb, 0, none⟩))).setCell ⟨vb, 4, none⟩ (.pointer (some ⟨w5.heap.size, 0, none⟩)) = X7 at V7 HR7 HT7 ⊢
  have HVC : Hid (Vc X7 W0.heap.size vb X3.heap.size rf w5.heap.size sb 8 cap capt G Q zeroZ (fun _ => fresh)) := by
    obtain ⟨h1, h2, h3, h4, h5, h6, h7, h8, h9⟩ := HLs.out
    exact ⟨V7.out.f 0 (by omega), V7.out.f 4 (by omega), HR7.out, HT7.out, ⟨h7, by omega, by omega, by omega, by omega, fun i hi => by have := h3 i hi; omega⟩, fun i hi => by have := h3 i hi; omega, by omega⟩
  have VX : Hid (∀ i, i = 2 ∨ i = 3 ∨ i = 7 → X7.cell? ⟨vb, i, none⟩ = some (.slice none 0 0)) := by
    rintro i (rfl | rfl | rfl)
    · exact V7.out.f 2 (by omega)
    · exact V7.out.f 3 (by omega)
    · exact V7.out.f 7 (by omega)
  clear HR7 HT7 V6 V5 V4 V3 HR HR5 HR6 HT6 HL HL5 HL6 H46 H48
  generalize hx7 : updV (updV (updV (fun i => if i = 5 then Value.pointer (some ⟨b1, 0, none⟩) else if i = 6 then .pointer (some ⟨b2, 0, none⟩) else if i = 2 ∨ i = 3 ∨ i = 7 then .slice none 0 0 else .pointer none) 0 (.pointer (some ⟨X3.heap.size, 0, none⟩))) 1 (.pointer (some ⟨cb, 0, none⟩))) 4 (.pointer (some ⟨w5.heap.size, 0, none⟩)) = x7 at V7
  clear hx7
  have HVB := Lib.hid V7.out.lo
  go_wp2_with fail
  have k1 := (HC.out _ V7.out.k).2.1
  have k3 := (HC.out _ V7.out.k).2.2
  refine wp_loop_rounds 2 ?_
  rw [rounds_succ]
  go_upto_region 14 with (go_at_call 49; refine (rtlb_c _).mono ?_; rintro e w8 ⟨tl, rfl, hk8⟩)
  have V8 := Lib.hid (V7.out.kept hk8)
  have HV8 := Lib.hid (HVC.out.kept hk8)
  have g2 : w8.cell? ⟨vb, 2, none⟩ = some (.slice none 0 0) := hk8.cell (VX.out 2 (.inl rfl))
  have g3 : Hid (w8.cell? ⟨vb, 3, none⟩ = some (.slice none 0 0)) := hk8.cell (VX.out 3 (.inr (.inl rfl)))
  have g7 : Hid (w8.cell? ⟨vb, 7, none⟩ = some (.slice none 0 0)) := hk8.cell (VX.out 7 (.inr (.inr rfl)))
  have l8 := V8.out.lt
  clear hk8 k1 k3 V7 HVC VX
  go_wp2_with (at_builtin; refine wpList_append_own_at _ rfl _ _ 40 rfl (0) 112 i112 (.pointer none) 1 8 Try.underlying40 hb hb0 hb1 hb2 rfl (by decide) _ _ _ rfl (World.ownsRow_nil _ _ _ _) ⟨w8.heap.size, 0, none⟩ 1 1 [.pointer (some ⟨tl, 0, none⟩)] rfl rfl (cell_one_new _ _ _) ?a2 ?a3 ?a4 ?a5 ?_)
  case a2 => simp [Value.oneCell']
  case a3 => simp [maxLen]
  case a4 => omega
  case a5 => omega

  intro v9 w9 hown hgrow _ _
  obtain ⟨g9, p9, rfl⟩ := ownsRow_succ hown
  have hk9 := ((Kept.refl _).alloc _).trans (grown_none hgrow)
  have V9 := Lib.hid (V8.out.kept hk9)
  have HV9 := Lib.hid (HV8.out.kept hk9)
  have d2 := hk9.cell g2
  have z2 := V9.out.fz 2
  have g3 : Hid (w9.cell? ⟨vb, 3, none⟩ = some (.slice none 0 0)) := hk9.cell g3.out
  have g7 : Hid (w9.cell? ⟨vb, 7, none⟩ = some (.slice none 0 0)) := hk9.cell g7.out
  clear hown hgrow hk9 g2 l8 V8 HV8
  go_upto_region 15 with fail
  have V10 := Lib.hid (V9.out.set 2 (.slice (some ⟨g9, 0, none⟩) (0 + 1) p9))
  have HV10 : Hid (Vc (w9.setCell ⟨vb, 2, none⟩ (.slice (some ⟨g9, 0, none⟩) (0 + 1) p9)) W0.heap.size vb X3.heap.size rf w5.heap.size sb 8 cap capt G Q zeroZ (fun _ => fresh)) := vc_set HV9.out 2 _ (by decide) (by decide) HLs.out
  have h3 : (w9.setCell ⟨vb, 2, none⟩ (.slice (some ⟨g9, 0, none⟩) (0 + 1) p9)).cell? ⟨vb, 3, none⟩ = some (.slice none 0 0) := by
    rw [World.cell?_setCell_other _ _ _ _ (addr_ne (.inr (by decide)))]; exact g3.out
  have h7 : Hid ((w9.setCell ⟨vb, 2, none⟩ (.slice (some ⟨g9, 0, none⟩) (0 + 1) p9)).cell? ⟨vb, 7, none⟩ = some (.slice none 0 0)) := by
    show _ = _; rw [World.cell?_setCell_other _ _ _ _ (addr_ne (.inr (by decide)))]; exact g7.out
  generalize w9.setCell ⟨vb, 2, none⟩ (.slice (some ⟨g9, 0, none⟩) (0 + 1) p9) = X9 at V10 HV10 h3 h7 ⊢
  clear V9 HV9 d2 z2 g3 g7
  have H3 := Lib.hid h3
  go_region_law (first
    | (refine step_append_lies _ (by rfl) _ _ _ (by rfl) 0 115 i115 (.pointer none) 1 8 Try.underlying41 hc hc0 hc1 hc2 rfl (by decide) (.slice none 0 0) 0 [] (by rfl) (World.ownsRow_nil _ _ _ _) ⟨w10.heap.size, 0, none⟩ 1 1 [.pointer (some ⟨rb, 0, none⟩)] (by rfl) (by rfl) (cell_one_new _ _ _) (by simp [Value.oneCell']) (by omega) (by simp [maxLen]) (by omega) (by omega) (w10.heap.size + 1) (by simp) ?_
       intro g11 p11 w11 hown hgrow _ _
       have hk11 := ((Kept.refl _).alloc _).trans (grown_none hgrow)
       have V11 := Lib.hid (VV.out.kept hk11)
       have HV11 := Lib.hid (HVV.out.kept hk11)
       have d3 := hk11.cell j3
       have z3 := V11.out.fz 3
       have j7 : Hid (w11.cell? ⟨vb, 7, none⟩ = some (.slice none 0 0)) := hk11.cell j7.out
       clear hown hgrow hk11)
    | (go_simp; go_at_call 50; refine (rregs_c _).mono ?_; rintro e w10 ⟨rb, rfl, hk10⟩
       have hkk : Kept X9 w10 := (by first | exact ((Kept.refl X9).drew).trans hk10 | exact hk10)
       have VV := Lib.hid (V10.out.kept hkk)
       have HVV := Lib.hid (HV10.out.kept hkk)
       have j3 := hkk.cell H3.out
       have j7 : Hid (w10.cell? ⟨vb, 7, none⟩ = some (.slice none 0 0)) := hkk.cell h7.out
       have lj := VV.out.lt
       clear hk10 hkk))
  all_goals
    go_upto_region 16 with fail
    have V12 := Lib.hid (V11.out.set 3 (.slice (some ⟨g11, 0, none⟩) (0 + 1) p11))
    have HV12 : Hid (Vc (w11.setCell ⟨vb, 3, none⟩ (.slice (some ⟨g11, 0, none⟩) (0 + 1) p11)) W0.heap.size vb X3.heap.size rf w5.heap.size sb 8 cap capt G Q zeroZ (fun _ => fresh)) := vc_set HV11.out 3 _ (by decide) (by decide) HLs.out
    have m7 : (w11.setCell ⟨vb, 3, none⟩ (.slice (some ⟨g11, 0, none⟩) (0 + 1) p11)).cell? ⟨vb, 7, none⟩ = some (.slice none 0 0) := by
      rw [World.cell?_setCell_other _ _ _ _ (addr_ne (.inr (by decide)))]; exact j7.out
    generalize w11.setCell ⟨vb, 3, none⟩ (.slice (some ⟨g11, 0, none⟩) (0 + 1) p11) = X11 at V12 HV12 m7 ⊢
    have l12 := V12.out.lt
    clear d3 z3
    go_wp2_with (at_builtin; refine wpList_append_own_at _ rfl _ _ 22 rfl (0) 3 i3 (.int .i64 0) 1 8 Try.underlying22 ha ha0 ha1 ha2 rfl (by decide) _ _ _ rfl (World.ownsRow_nil _ _ _ _) ⟨X11.heap.size, 0, none⟩ 1 1 [.int .i64 (-1)] rfl rfl (cell_one_new _ _ _) ?b2 ?b3 ?b4 ?b5 ?_)
    case b2 => simp [Value.oneCell']
    case b3 => simp [maxLen]
    case b4 => omega
    case b5 => omega

    intro v13 w13 hown hgrow _ _
    obtain ⟨g13, p13, rfl⟩ := ownsRow_succ hown
    have hk13 := ((Kept.refl _).alloc _).trans (grown_none hgrow)
    have V13 := Lib.hid (V12.out.kept hk13)
    have HV13 := Lib.hid (HV12.out.kept hk13)
    have d7 := hk13.cell m7
    have z7 := V13.out.fz 7
    have V14 := Lib.hid (V13.out.set 7 (.slice (some ⟨g13, 0, none⟩) (0 + 1) p13))
    have HV14 : Hid (Vc (w13.setCell ⟨vb, 7, none⟩ (.slice (some ⟨g13, 0, none⟩) (0 + 1) p13)) W0.heap.size vb X3.heap.size rf w5.heap.size sb 8 cap capt G Q zeroZ (fun _ => fresh)) := vc_set HV13.out 7 _ (by decide) (by decide) HLs.out
    have k1 := (HC.out _ V14.out.k).2.1
    have k1' := (HC.out _ V13.out.k).2.1
    have hnvb : w.heap.size ≠ vb := by have := HVB.out; omega
    clear hown hgrow hk13 m7 l12
    go_wp2_with fail
    rw [rounds_succ]
    go_wp2_with fail
    go_ret2
    exact ⟨_, _, _, _, _, _, _, _, _, rfl, vc_lo HV14.out (by omega), HW.out.trans V14.out.k⟩
end Go.Proofs.Ytcjadneamacilaa.C

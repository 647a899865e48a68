/- palanquinref39: Take; snap.Take where it may not. -/
import Derived.Test.YtcjadneamacilaaAN
import Derived.Test.YtcjadneamacilaaJ
namespace Go.Proofs.Ytcjadneamacilaa.C
open Go.RowKit

set_option maxRecDepth 100000 in
set_option maxHeartbeats 4000000 in
theorem rtake_ok (w : World) (lo vb rm rf tb sb n cap capt f N : Nat) (G0 Q0 : Nat → Nat) (Zm : Nat → Nat → Int) (Lm : Nat → Fm) (hM : Vc w lo vb rm rf tb sb n cap capt G0 Q0 Zm Lm) (hT : ∀ i, i < n → 0 ≤ (Lm i).ty ∧ (Lm i).ty ≤ 2) (hN : f + N ≤ n) :
    Calls Try.prog 18 #[.pointer (some ⟨vb, 0, none⟩), .int .i64 f, .int .i64 ((f : Int) + N)] w fun e w' => ∃ p, e = .returned (.tuple #[.agg #[.int .i64 f, .int .i64 ((f : Int) + N), .slice p.aw N p.cw, .slice p.at' N p.ct, .slice p.ac N p.cc], .int .i64 0]) ∧ Snp w' p (snapOf Zm Lm f N) ∧ Kept w w' := by
  have info2 : (Try.prog.info? 23).map (fun i => (i.zero, i.size, i.bytes)) = some (some (.slice none 0 0), 1, 24) := by kernel_rfl
  obtain ⟨i2, hi2, hz0, hz1, hz2⟩ := info_parts info2
  clear info2
  have info3 : (Try.prog.info? 3).map (fun i => (i.zero, i.size, i.bytes)) = some (some (.int .i64 0), 1, 8) := by kernel_rfl
  obtain ⟨i3, hi3, hy0, hy1, hy2⟩ := info_parts info3
  clear info3
  have hn := hM.M.le
  have HWZ : Hid (∀ i k, i < f + N → k < 36 → (Lit.int .u64 (Zm i k)).wf = true) := fun i k hi hk => hM.M.wf i k (by omega) hk
  have HWT : Hid (∀ i, i < f + N → (Lit.int .i64 (Lm i).ty).wf = true) := fun i hi => kind_wf Lm hT i (by omega)
  have HWC : Hid (∀ i, i < f + N → (Lit.int .i64 (Lm i).ct).wf = true) := fun i hi => wf_of_le (hM.T.lo i (by omega)) (hM.T.hi i (by omega))
  have K0 : Hid (Kept w (w.alloc (.cells #[.int .i64 0, .int .i64 0, .slice none 0 0, .slice none 0 0, .slice none 0 0] 56))) := (Kept.refl w).alloc _
  have HM := Lib.hid (hM.kept K0.out)
  have q0 : ¬ (f : Int) < 0 := by omega
  have q1 : ¬ (n : Int) < (f : Int) + N := by omega
  have q2 : ¬ (f : Int) + N < (f : Int) := by omega
  have hm0 := HM.out.m0
  have hmd := HM.out.M.hd
  clear hM hT
  go_enter Try.func18, Try.ntmps18
  have hsz : (w.alloc (.cells #[.int .i64 0, .int .i64 0, .slice none 0 0, .slice none 0 0, .slice none 0 0] 56)).heap.size = w.heap.size + 1 := by simp
  have HB6 : Hid (∀ o v, (#[.int .i64 0, .int .i64 0, .slice none 0 0, .slice none 0 0, .slice none 0 0] : Array Value)[o]? = some v → (w.alloc (.cells #[.int .i64 0, .int .i64 0, .slice none 0 0, .slice none 0 0, .slice none 0 0] 56)).cell? ⟨w.heap.size, o, none⟩ = some v) := fun o v h => by rw [World.cell?_alloc_new]; exact h
  have HF6 : Hid (∀ o, (w.alloc (.cells #[.int .i64 0, .int .i64 0, .slice none 0 0, .slice none 0 0, .slice none 0 0] 56)).frozen? ⟨w.heap.size, o, none⟩ = false) := fun o => by rw [frozen?_alloc_cells]; simp [World.frozen?]
  go_upto_region 4 with fail
  generalize (w.alloc (.cells #[.int .i64 0, .int .i64 0, .slice none 0 0, .slice none 0 0, .slice none 0 0] 56)) = W0 at K0 HM hm0 hmd hsz HB6 HF6 ⊢
  clear q0 q1 q2 hm0 hmd
  try rw [hsz]
  go_wp2_with fail
  go_loopw [9] (fun i wr => ∃ (j : Nat) (v2 v3 v4 : Value) (G Q : Nat → Nat), j ≤ N ∧ i = .int .i64 ((f : Int) + j) ∧ Hid (Kept W0 wr ∧ Rw wr (w.heap.size + 1) f ((f : Int) + N) j j j v2 v3 v4 G Q (fun i => Zm (f + i)) (fun i => (Lm (f + i)).ty) (fun i => (Lm (f + i)).ct) ∧ ∀ i, i < j → 36 ≤ Q i ∧ Q i ≤ maxLen)) (fun i _ => f + N - (intOf i).toNat)
  case atStart =>
    refine ⟨0, .slice none 0 0, .slice none 0 0, .slice none 0 0, fun _ => 0, fun _ => 0, by omega, by simp, (Kept.refl _).alloc _, ?_, fun i hi => absurd hi (by omega)⟩
    have hc : ∀ o, (W0.alloc (.cells #[.int .i64 f, .int .i64 ((f : Int) + N), .slice none 0 0, .slice none 0 0, .slice none 0 0] 56)).cell? ⟨w.heap.size + 1, o, none⟩ = (#[.int .i64 f, .int .i64 ((f : Int) + N), .slice none 0 0, .slice none 0 0, .slice none 0 0] : Array Value)[o]? := by
      intro o; rw [← hsz, World.cell?_alloc_new]
    exact ⟨hc 0, hc 1, hc 2, hc 3, hc 4, fun o => by rw [frozen?_alloc_cells]; simp [World.frozen?, ← hsz], World.ownsRow_nil _ _ _ _, World.ownsRow_nil _ _ _ _, World.ownsRow_nil _ _ _ _, fun i hi => absurd hi (by omega), fun i hi => absurd hi (by omega), fun k hk => by simp [Value.ownBlock] at hk, fun k hk => by simp [Value.ownBlock] at hk⟩
  case round =>
    obtain ⟨j, v2, v3, v4, G, Q, hj, rfl, hr⟩ := hrel
    by_cases hlt : j < N
    · have i1 : (f : Int) + j < (f : Int) + N := by omega
      have HVr := Lib.hid (HM.out.kept hr.out.1)
      have m0 := HVr.out.m0
      have HRr := Lib.hid hr.out.2.1
      have HQr := Lib.hid hr.out.2.2
      have KR := Lib.hid hr.out.1
      have hSr := HRr.out.lt
      clear hr
      go_wp2_with fail
      rw [show (f : Int) + (j : Int) = ((f + j : Nat) : Int) from by omega]
      refine (rmwords_c _ rm rf n cap G0 Q0 Zm (f + j) (by omega) HVr.out.M).mono ?_
      rintro e w1 ⟨b, c, rfl, hx, hk1, hb1, hb2, hc1, hc2⟩
      have HV1 := Lib.hid (HVr.out.kept hk1)
      have m4 := HV1.out.m4
      have HF : Hid (getF n Lm ((f : Int) + (j : Int)) = Lm (f + j)) := by show getF n Lm _ = _; unfold getF; rw [if_pos ⟨by omega, by omega⟩]; congr 1
      have HX := Lib.hid hx
      have HS1 := Lib.hid hk1.size
      have K1 := Lib.hid (KR.out.trans hk1)
      have HR1 := Lib.hid (HRr.out.kept hk1)
      clear hx hk1 m0
      go_wp2_with fail
      refine (rof_c _ tb sb n capt Lm _ HV1.out.T).mono ?_
      rw [HF.out]
      rintro e w2 ⟨rfl, hk2⟩
      have HS2 := Lib.hid hk2.size
      have K2 := Lib.hid ((K1.out.trans hk2).alloc (.cells #[.int .i64 (Lm (f + j)).ty, .int .i64 (Lm (f + j)).ct, .int .i64 (Lm (f + j)).fr, .int .i64 (Lm (f + j)).wa] 133))
      have HR2 := Lib.hid ((HR1.out.kept hk2).kept ((Kept.refl w2).alloc (.cells #[.int .i64 (Lm (f + j)).ty, .int .i64 (Lm (f + j)).ct, .int .i64 (Lm (f + j)).fr, .int .i64 (Lm (f + j)).wa] 133)))
      have HBX : Hid (∀ k, k < 36 → (w2.alloc (.cells #[.int .i64 (Lm (f + j)).ty, .int .i64 (Lm (f + j)).ct, .int .i64 (Lm (f + j)).fr, .int .i64 (Lm (f + j)).wa] 133)).cell? ⟨b, k, none⟩ = some (.int .u64 (Zm (f + j) k))) := fun k hk => ((Kept.refl w2).alloc _).cell (hk2.cell (HX.out k hk))
      have x0 : (w2.alloc (.cells #[.int .i64 (Lm (f + j)).ty, .int .i64 (Lm (f + j)).ct, .int .i64 (Lm (f + j)).fr, .int .i64 (Lm (f + j)).wa] 133)).cell? ⟨w2.heap.size, 0, none⟩ = some (.int .i64 (Lm (f + j)).ty) := by rw [World.cell?_alloc_new]; rfl
      have x1 : (w2.alloc (.cells #[.int .i64 (Lm (f + j)).ty, .int .i64 (Lm (f + j)).ct, .int .i64 (Lm (f + j)).fr, .int .i64 (Lm (f + j)).wa] 133)).cell? ⟨w2.heap.size, 1, none⟩ = some (.int .i64 (Lm (f + j)).ct) := by rw [World.cell?_alloc_new]; rfl
      have hxl : w2.heap.size < (w2.alloc (.cells #[.int .i64 (Lm (f + j)).ty, .int .i64 (Lm (f + j)).ct, .int .i64 (Lm (f + j)).fr, .int .i64 (Lm (f + j)).wa] 133)).heap.size := by simp
      have hxw : wr.heap.size ≤ w2.heap.size := Nat.le_trans HS1.out HS2.out
      have hbX : b < (w2.alloc (.cells #[.int .i64 (Lm (f + j)).ty, .int .i64 (Lm (f + j)).ct, .int .i64 (Lm (f + j)).fr, .int .i64 (Lm (f + j)).wa] 133)).heap.size := by have := HS2.out; simp; omega
      have HVX : Hid ((∀ q, v2.ownBlock = some q → q ≠ w2.heap.size) ∧ (∀ q, v3.ownBlock = some q → q ≠ w2.heap.size) ∧ (∀ q, v4.ownBlock = some q → q ≠ w2.heap.size)) :=
        ⟨fun q hq => by have := (HRr.out.r2.lt q hq).2; omega, fun q hq => by have := (HRr.out.r3.lt q hq).2; omega, fun q hq => by have := (HRr.out.r4.lt q hq).2; omega⟩
      have hbv : Hid (v2.ownBlock ≠ some b ∧ v3.ownBlock ≠ some b ∧ v4.ownBlock ≠ some b) :=
        ⟨fun hq => by have := (HRr.out.r2.lt b hq).2; omega, fun hq => by have := (HRr.out.r3.lt b hq).2; omega, fun hq => by have := (HRr.out.r4.lt b hq).2; omega⟩
      clear hk2 m4 HV1 HVr HX HS1 HS2
      go_upto_region 9 with fail
      generalize w2.alloc (.cells #[.int .i64 (Lm (f + j)).ty, .int .i64 (Lm (f + j)).ct, .int .i64 (Lm (f + j)).fr, .int .i64 (Lm (f + j)).wa] 133) = X2 at K2 HR2 HBX x0 x1 hxl hbX ⊢
      generalize w2.heap.size = xb at x0 x1 hxl hxw HVX ⊢
      have s2 := HR2.out.s2
      have hS := HR2.out.lt
      go_wp2_with (at_builtin; refine wpList_append_own_at _ rfl _ _ 54 rfl (w.heap.size + 1 + 1) 23 i2 (.slice none 0 0) 1 24 Try.underlying54 hi2 hz0 hz1 hz2 rfl (by decide) _ _ _ rfl (HR2.out.r2.alloc _) ⟨X2.heap.size, 0, none⟩ 1 1 [.slice (some ⟨b, 0, none⟩) 36 c] rfl rfl (cell_one_new _ _ _) ?c22 ?c23 ?c24 ?c25 ?_)
      case c22 => simp [Value.oneCell']
      case c23 => simp [maxLen]; omega
      case c24 => omega
      case c25 => simp; omega
      intro v2' w2n hown hgrow _ hloc
      obtain ⟨g2, cp2, rfl⟩ := ownsRow_succ hown
      have hr := HR2.out.kept ((Kept.refl X2).alloc (.cells #[.slice (some ⟨b, 0, none⟩) 36 c] 23))
      have hat : v2.ownBlock = some g2 ∨ (X2.alloc (.cells #[.slice (some ⟨b, 0, none⟩) 36 c] 23)).heap.size ≤ g2 := by
        rcases hloc with e | e
        · exact .inl e.symm
        · exact .inr (by have h1 := (Option.some.inj e).symm; rw [World.size_alloc]; exact Nat.le_of_eq h1)
      have hSb : w.heap.size + 1 < b := by have := hb1; have := hSr; omega
      have hbl : b < (X2.alloc (.cells #[.slice (some ⟨b, 0, none⟩) 36 c] 23)).heap.size := by simp; omega
      have hbx : ∀ k, k < 36 → (X2.alloc (.cells #[.slice (some ⟨b, 0, none⟩) 36 c] 23)).cell? ⟨b, k, none⟩ = some (.int .u64 (Zm (f + j) k)) := fun k hk => ((Kept.refl X2).alloc _).cell (HBX.out k hk)
      have hP := hr.push2 b c (Zm (f + j)) hSb hbl hbx (hbv.out.1) (hbv.out.2.1) (hbv.out.2.2) g2 cp2 hown hgrow hat
      have hne : some (w.heap.size + 1) ≠ v2.ownBlock := fun e => by have := (HR2.out.r2.lt _ e.symm).1; omega
      have st2 := hgrow.cell (a := ⟨w.heap.size + 1, 2, none⟩) hr.s2 hne
      have sf2 : w2n.frozen? ⟨w.heap.size + 1, 2, none⟩ = false := by
        have := hP.fz 2
        rwa [World.frozen?_setCell] at this
      have K2n : Hid (Kept W0 (w2n.setCell ⟨w.heap.size + 1, 2, none⟩ (.slice (some ⟨g2, 0, none⟩) (j + 1) cp2))) := (Below.grown (K2.out.alloc (.cells #[.slice (some ⟨b, 0, none⟩) 36 c] 23)) hgrow (K2.out.alloc _).size (fun q hq => by have := (HR2.out.r2.lt q hq).1; omega)).setCell (by simp; omega) _
      have HP2 := Lib.hid hP
      have x0n : (w2n.setCell ⟨w.heap.size + 1, 2, none⟩ (.slice (some ⟨g2, 0, none⟩) (j + 1) cp2)).cell? ⟨xb, 0, none⟩ = some (.int .i64 (Lm (f + j)).ty) := by
        rw [World.cell?_setCell_other _ _ _ _ (addr_ne (.inl (by omega)))]
        exact hgrow.cell (a := ⟨xb, 0, none⟩) ((World.cell?_alloc_lt _ _ _ hxl).trans x0) (fun e => HVX.out.1 _ e.symm rfl)
      have x1n : (w2n.setCell ⟨w.heap.size + 1, 2, none⟩ (.slice (some ⟨g2, 0, none⟩) (j + 1) cp2)).cell? ⟨xb, 1, none⟩ = some (.int .i64 (Lm (f + j)).ct) := by
        rw [World.cell?_setCell_other _ _ _ _ (addr_ne (.inl (by omega)))]
        exact hgrow.cell (a := ⟨xb, 1, none⟩) ((World.cell?_alloc_lt _ _ _ hxl).trans x1) (fun e => HVX.out.1 _ e.symm rfl)
      have hxln : xb < (w2n.setCell ⟨w.heap.size + 1, 2, none⟩ (.slice (some ⟨g2, 0, none⟩) (j + 1) cp2)).heap.size := by have h1 := hgrow.size; simp [World.setCell] at h1 ⊢; omega
      clear hown hgrow hloc hat hr hP hne s2 hS hSb hbl hbx hxl x0 x1

      go_upto_region 10 with fail
      generalize w2n.setCell ⟨w.heap.size + 1, 2, none⟩ (.slice (some ⟨g2, 0, none⟩) (j + 1) cp2) = X3 at K2n HP2 x0n x1n hxln ⊢
      obtain ⟨x0, x1, hxl⟩ := And.intro x0n (And.intro x1n hxln)
      clear x0n x1n hxln st2 sf2
      have s3 := HP2.out.s3
      have hS := HP2.out.lt
      go_wp2_with (at_builtin; refine wpList_append_own_at _ rfl _ _ 22 rfl (w.heap.size + 1 + 1) 3 i3 (.int .i64 0) 1 8 Try.underlying22 hi3 hy0 hy1 hy2 rfl (by decide) _ _ _ rfl (HP2.out.r3.alloc _) ⟨X3.heap.size, 0, none⟩ 1 1 [.int .i64 (Lm (f + j)).ty] rfl rfl (cell_one_new _ _ _) ?c32 ?c33 ?c34 ?c35 ?_)
      case c32 => simp [Value.oneCell']
      case c33 => simp [maxLen]; omega
      case c34 => omega
      case c35 => simp; omega
      intro v3' w3n hown hgrow _ hloc
      obtain ⟨g3, cp3, rfl⟩ := ownsRow_succ hown
      have hr := HP2.out.kept ((Kept.refl X3).alloc (.cells #[.int .i64 (Lm (f + j)).ty] 3))
      have hat : v3.ownBlock = some g3 ∨ (X3.alloc (.cells #[.int .i64 (Lm (f + j)).ty] 3)).heap.size ≤ g3 := by
        rcases hloc with e | e
        · exact .inl e.symm
        · exact .inr (by have h1 := (Option.some.inj e).symm; rw [World.size_alloc]; exact Nat.le_of_eq h1)
      have hP := hr.push3 _ g3 cp3 hown hgrow hat
      have hne : some (w.heap.size + 1) ≠ v3.ownBlock := fun e => by have := (HP2.out.r3.lt _ e.symm).1; omega
      have st3 := hgrow.cell (a := ⟨w.heap.size + 1, 3, none⟩) hr.s3 hne
      have sf3 : w3n.frozen? ⟨w.heap.size + 1, 3, none⟩ = false := by
        have := hP.fz 3
        rwa [World.frozen?_setCell] at this
      have K3n : Hid (Kept W0 (w3n.setCell ⟨w.heap.size + 1, 3, none⟩ (.slice (some ⟨g3, 0, none⟩) (j + 1) cp3))) := (Below.grown (K2n.out.alloc (.cells #[.int .i64 (Lm (f + j)).ty] 3)) hgrow (K2n.out.alloc _).size (fun q hq => by have := (HP2.out.r3.lt q hq).1; omega)).setCell (by simp; omega) _
      have HP3 := Lib.hid hP
      have x1n : (w3n.setCell ⟨w.heap.size + 1, 3, none⟩ (.slice (some ⟨g3, 0, none⟩) (j + 1) cp3)).cell? ⟨xb, 1, none⟩ = some (.int .i64 (Lm (f + j)).ct) := by
        rw [World.cell?_setCell_other _ _ _ _ (addr_ne (.inl (by omega)))]
        exact hgrow.cell (a := ⟨xb, 1, none⟩) ((World.cell?_alloc_lt _ _ _ hxl).trans x1) (fun e => HVX.out.2.1 _ e.symm rfl)
      have hxln : xb < (w3n.setCell ⟨w.heap.size + 1, 3, none⟩ (.slice (some ⟨g3, 0, none⟩) (j + 1) cp3)).heap.size := by have h1 := hgrow.size; simp [World.setCell] at h1 ⊢; omega
      clear hown hgrow hloc hat hr hP hne s3 hS  hxl x1

      go_upto_region 11 with fail
      generalize w3n.setCell ⟨w.heap.size + 1, 3, none⟩ (.slice (some ⟨g3, 0, none⟩) (j + 1) cp3) = X4 at K3n HP3 x1n hxln ⊢
      obtain ⟨x1, hxl⟩ := And.intro x1n hxln
      clear x1n hxln st3 sf3 x0
      have s4 := HP3.out.s4
      have hS := HP3.out.lt
      go_wp2_with (at_builtin; refine wpList_append_own_at _ rfl _ _ 22 rfl (w.heap.size + 1 + 1) 3 i3 (.int .i64 0) 1 8 Try.underlying22 hi3 hy0 hy1 hy2 rfl (by decide) _ _ _ rfl (HP3.out.r4.alloc _) ⟨X4.heap.size, 0, none⟩ 1 1 [.int .i64 (Lm (f + j)).ct] rfl rfl (cell_one_new _ _ _) ?c42 ?c43 ?c44 ?c45 ?_)
      case c42 => simp [Value.oneCell']
      case c43 => simp [maxLen]; omega
      case c44 => omega
      case c45 => simp; omega
      intro v4' w4n hown hgrow _ hloc
      obtain ⟨g4, cp4, rfl⟩ := ownsRow_succ hown
      have hr := HP3.out.kept ((Kept.refl X4).alloc (.cells #[.int .i64 (Lm (f + j)).ct] 3))
      have hat : v4.ownBlock = some g4 ∨ (X4.alloc (.cells #[.int .i64 (Lm (f + j)).ct] 3)).heap.size ≤ g4 := by
        rcases hloc with e | e
        · exact .inl e.symm
        · exact .inr (by have h1 := (Option.some.inj e).symm; rw [World.size_alloc]; exact Nat.le_of_eq h1)
      have hP := hr.push4 _ g4 cp4 hown hgrow hat
      have hne : some (w.heap.size + 1) ≠ v4.ownBlock := fun e => by have := (HP3.out.r4.lt _ e.symm).1; omega
      have st4 := hgrow.cell (a := ⟨w.heap.size + 1, 4, none⟩) hr.s4 hne
      have sf4 : w4n.frozen? ⟨w.heap.size + 1, 4, none⟩ = false := by
        have := hP.fz 4
        rwa [World.frozen?_setCell] at this
      have K4n : Hid (Kept W0 (w4n.setCell ⟨w.heap.size + 1, 4, none⟩ (.slice (some ⟨g4, 0, none⟩) (j + 1) cp4))) := (Below.grown (K3n.out.alloc (.cells #[.int .i64 (Lm (f + j)).ct] 3)) hgrow (K3n.out.alloc _).size (fun q hq => by have := (HP3.out.r4.lt q hq).1; omega)).setCell (by simp; omega) _
      have HP4 := Lib.hid hP
      clear hown hgrow hloc hat hr hP hne s4 hS  

      go_wp2_with fail
      generalize w4n.setCell ⟨w.heap.size + 1, 4, none⟩ (.slice (some ⟨g4, 0, none⟩) (j + 1) cp4) = X5 at K4n HP4 ⊢
      have HE : Hid (Rw X5 (w.heap.size + 1) f ((f : Int) + N) (j + 1) (j + 1) (j + 1) (.slice (some ⟨g2, 0, none⟩) (j + 1) cp2) (.slice (some ⟨g3, 0, none⟩) (j + 1) cp3) (.slice (some ⟨g4, 0, none⟩) (j + 1) cp4) (ext G j b) (ext Q j c) (fun i => Zm (f + i)) (fun i => (Lm (f + i)).ty) (fun i => (Lm (f + i)).ct)) := by
        have h := HP4.out
        rw [ext_self (fun i => Zm (f + i)) j _ rfl, ext_self (fun i => (Lm (f + i)).ty) j _ rfl, ext_self (fun i => (Lm (f + i)).ct) j _ rfl] at h
        exact h
      have HQ2 : Hid (∀ i, i < j + 1 → 36 ≤ ext Q j c i ∧ ext Q j c i ≤ maxLen) := fun i hi => by
        by_cases e : i = j
        · subst e; rw [ext_at]; exact ⟨hc1, hc2⟩
        · rw [ext_lt _ _ _ _ (by omega)]; exact HQr.out i (by omega)
      go_roundw
      case rel => exact ⟨j + 1, _, _, _, _, _, by omega, by go_num, K4n.out, HE.out, HQ2.out⟩
      case measure => simp [intOf]; omega
    · obtain rfl : j = N := by omega
      obtain ⟨hk, hR, hQ⟩ := hr.out
      have c0 := hk.cell (HB6.out 0 (.int .i64 0) rfl)
      have c1 := hk.cell (HB6.out 1 (.int .i64 0) rfl)
      have c2 := hk.cell (HB6.out 2 (.slice none 0 0) rfl)
      have c3 := hk.cell (HB6.out 3 (.slice none 0 0) rfl)
      have c4 := hk.cell (HB6.out 4 (.slice none 0 0) rfl)
      have hz : ∀ o, wr.frozen? ⟨w.heap.size, o, none⟩ = false := fun o => (hk.frozen (p := ⟨w.heap.size, o, none⟩) (by simp; omega)).trans (HF6.out o)
      have z0 := hz 0
      have z1 := hz 1
      have z2 := hz 2
      have z3 := hz 3
      have z4 := hz 4
      have s0 := hR.s0
      have s1 := hR.s1
      have s2 := hR.s2
      have s3 := hR.s3
      have s4 := hR.s4
      clear hz
      have hsn : ∀ (W : World), Rw W (w.heap.size + 1) f ((f : Int) + j) j j j v2 v3 v4 G Q (fun i => Zm (f + i)) (fun i => (Lm (f + i)).ty) (fun i => (Lm (f + i)).ct) → ∃ p : Pl, v2 = .slice p.aw j p.cw ∧ v3 = .slice p.at' j p.ct ∧ v4 = .slice p.ac j p.cc ∧ Snp W p ⟨f, (f : Int) + j, j, fun _ => 36, fun i => Zm (f + i), j, fun i => (Lm (f + i)).ty, j, fun i => (Lm (f + i)).ct⟩ := fun W h =>
        snp_of (by omega) h (wf_of_le (by omega) (by omega)) (wf_of_le (by omega) (by omega)) (fun i k hi hk => HWZ.out (f + i) k (by omega) hk) (fun i hi => HWT.out (f + i) (by omega)) (fun i hi => HWC.out (f + i) (by omega)) hQ
      have HSN := Lib.hid hsn
      obtain ⟨p0, rfl, rfl, rfl, -⟩ := hsn _ hR
      clear hk hR hsn hQ
      go_wp2_with fail
      obtain ⟨hk, hR, -⟩ := hr.out
      have hRf := ((((hR.low (w.heap.size) 0 (by omega) (.int .i64 f)).low (w.heap.size) 1 (by omega) (.int .i64 ((f : Int) + j))).low (w.heap.size) 2 (by omega) (.slice p0.aw j p0.cw)).low (w.heap.size) 3 (by omega) (.slice p0.at' j p0.ct)).low (w.heap.size) 4 (by omega) (.slice p0.ac j p0.cc)
      obtain ⟨p, e2, e3, e4, hS⟩ := HSN.out _ hRf
      injection e2 with e2a _ e2b
      injection e3 with e3a _ e3b
      injection e4 with e4a _ e4b
      have hKF := (((((K0.out.trans hk).setCell (p := ⟨w.heap.size, 0, none⟩) (by simp) (.int .i64 f)).setCell (p := ⟨w.heap.size, 1, none⟩) (by simp) (.int .i64 ((f : Int) + j))).setCell (p := ⟨w.heap.size, 2, none⟩) (by simp) (.slice p0.aw j p0.cw)).setCell (p := ⟨w.heap.size, 3, none⟩) (by simp) (.slice p0.at' j p0.ct)).setCell (p := ⟨w.heap.size, 4, none⟩) (by simp) (.slice p0.ac j p0.cc)
      obtain ⟨q0, q1, q2, q3, q4⟩ := five wr (w.heap.size) (.int .i64 f) (.int .i64 ((f : Int) + j)) (.slice p0.aw j p0.cw) (.slice p0.at' j p0.ct) (.slice p0.ac j p0.cc) _ _ _ _ _ c0 c1 c2 c3 c4
      generalize ((((wr.setCell ⟨w.heap.size, 0, none⟩ (.int .i64 f)).setCell ⟨w.heap.size, 1, none⟩ (.int .i64 ((f : Int) + j))).setCell ⟨w.heap.size, 2, none⟩ (.slice p0.aw j p0.cw)).setCell ⟨w.heap.size, 3, none⟩ (.slice p0.at' j p0.ct)).setCell ⟨w.heap.size, 4, none⟩ (.slice p0.ac j p0.cc) = WF at hKF hS q0 q1 q2 q3 q4 ⊢
      exact bodyPost_ret (v := .tuple #[.agg #[.int .i64 f, .int .i64 ((f : Int) + j), .slice p0.aw j p0.cw, .slice p0.at' j p0.ct, .slice p0.ac j p0.cc], .int .i64 0]) (by simp [results, Try.results18, go_sem, q0, q1, q2, q3, q4]) rfl ⟨p, by rw [e2a, e2b, e3a, e3b, e4a, e4b], hS, hKF⟩
end Go.Proofs.Ytcjadneamacilaa.C

/- snap.Take: what it does with a frame. -/
import Derived.Test.YtcjadneamacilaaH
namespace Go.Proofs.Ytcjadneamacilaa.C
open Go.RowKit

set_option maxRecDepth 100000 in
set_option maxHeartbeats 4000000 in
theorem tadd_c (w0 wr : World) (bm S j f : Nat) (fr up : Int) (v2 v3 v4 : Value) (G Q : Nat → Nat) (Z : Nat → Nat → Int) (T C : Nat → Int) (mb mm ms tb sb n cap : Nat) (Zm : Nat → Nat → Int) (Lm : Nat → Fm)
    (hM : Mc w0 mb mm ms tb sb n cap Zm Lm) (hbm : w0.cell? ⟨bm, 0, none⟩ = some (.pointer (some ⟨mb, 0, none⟩))) (hk : Kept w0 wr) (hS : w0.heap.size ≤ S) (hf : f < n) (hj : j < 64)
    (h : Rw wr S fr up j j j v2 v3 v4 G Q Z T C) :
    Calls Try.prog 58 #[.int .i64 f, .pointer (some ⟨bm, 0, none⟩), .pointer (some ⟨S, 0, none⟩)] wr fun e w' => ∃ u2 u3 u4, e = .returned (.tuple #[]) ∧
      Rw w' S fr up (j + 1) (j + 1) (j + 1) u2 u3 u4 (ext G j wr.heap.size) (ext Q j 36) (ext Z j (Zm f)) (ext T j (Lm f).ty) (ext C j (Lm f).ct) ∧ Kept w0 w' := by
  have info2 : (Try.prog.info? 23).map (fun i => (i.zero, i.size, i.bytes)) = some (some (.slice none 0 0), 1, 24) := by kernel_rfl
  obtain ⟨i2, hi2, hz0, hz1, hz2⟩ := info_parts info2
  clear info2
  have info3 : (Try.prog.info? 3).map (fun i => (i.zero, i.size, i.bytes)) = some (some (.int .i64 0), 1, 8) := by kernel_rfl
  obtain ⟨i3, hi3, hy0, hy1, hy2⟩ := info_parts info3
  clear info3
  have HM := Lib.hid hM
  have HB := Lib.hid hbm
  have HF : Hid (getF n Lm f = Lm f) := by show getF n Lm f = Lm f; unfold getF; rw [if_pos ⟨by omega, by omega⟩]; rfl
  have hn := hM.M.le
  have bmr := hk.cell hbm
  have HR := Lib.hid h
  have K0 := Lib.hid hk
  clear hM hbm h hk
  go_enter Try.func58, Try.ntmps58
  go_wp2_with (first
    | (go_at_call 9; refine (mMem_c _ (HM.out.kept K0.out)).mono ?_; rintro e w' ⟨rfl, rfl⟩)
    | (go_at_call 59; refine (words_c _ _ _ _ _ f hf (HM.out.kept K0.out).M).mono ?_; rintro e w1 ⟨rfl, hx, hk1, hl1⟩
       have HX := Lib.hid hx
       have HR1 := Lib.hid (HR.out.kept hk1)
       have K1 := Lib.hid (K0.out.trans hk1)
       have s2 := HR1.out.s2
       have hSr := HR.out.lt
       have hs1 := HR1.out.lt
       clear hx hk1 bmr)
    | (at_builtin; refine wpList_append_own_at _ rfl _ _ 54 rfl (S + 1) 23 i2 (.slice none 0 0) 1 24 Try.underlying54 hi2 hz0 hz1 hz2 rfl (by decide) _ _ _ rfl (HR1.out.r2.alloc _) ⟨w1.heap.size, 0, none⟩ 1 1 [.slice (some ⟨wr.heap.size, 0, none⟩) 36 36] rfl rfl (cell_one_new _ _ _) ?c2 ?c3 ?c4 ?c5 ?_))
  case c2 => simp [Value.oneCell']
  case c3 => simp [maxLen]; omega
  case c4 => omega
  case c5 => simp; omega
  intro v' w2 hown2 hgrow2 _ hloc2
  obtain ⟨g2, cp2, rfl⟩ := ownsRow_succ hown2
  have hxo : ∀ k, (v2.ownBlock = some k ∨ v3.ownBlock = some k ∨ v4.ownBlock = some k) → k ≠ wr.heap.size := by
    rintro k (hk | hk | hk) e
    · have := (HR.out.r2.lt k hk).2; omega
    · have := (HR.out.r3.lt k hk).2; omega
    · have := (HR.out.r4.lt k hk).2; omega
  have hr1 := HR1.out.kept ((Kept.refl w1).alloc (.cells #[.slice (some ⟨wr.heap.size, 0, none⟩) 36 36] 23))
  have hat2 : v2.ownBlock = some g2 ∨ (w1.alloc (.cells #[.slice (some ⟨wr.heap.size, 0, none⟩) 36 36] 23)).heap.size ≤ g2 := by
    rcases hloc2 with e | e
    · exact .inl e.symm
    · exact .inr (by have h1 := (Option.some.inj e).symm; rw [World.size_alloc]; exact Nat.le_of_eq h1)
  have hP := hr1.push2 wr.heap.size 36 (Zm f) hSr (by simp; omega) (fun k hk => ((Kept.refl w1).alloc _).cell (HX.out k hk)) (fun e => hxo _ (.inl e) rfl) (fun e => hxo _ (.inr (.inl e)) rfl) (fun e => hxo _ (.inr (.inr e)) rfl) g2 cp2 hown2 hgrow2 hat2
  have hs2 : S < w2.heap.size := Nat.lt_of_lt_of_le hs1 (by have := hgrow2.size; simp at this; omega)
  have hne2 : some S ≠ v2.ownBlock := fun e => by have := (HR1.out.r2.lt S e.symm).1; omega
  have st2 := hgrow2.cell (a := ⟨S, 2, none⟩) hr1.s2 hne2
  have sf2 : w2.frozen? ⟨S, 2, none⟩ = false := by
    have := hP.fz 2
    rwa [World.frozen?_setCell] at this
  have K2 : Hid (Kept w0 (w2.setCell ⟨S, 2, none⟩ (.slice (some ⟨g2, 0, none⟩) (j + 1) cp2))) := (Below.grown (K1.out.alloc (.cells #[.slice (some ⟨wr.heap.size, 0, none⟩) 36 36] 23)) hgrow2 (K1.out.alloc _).size (fun k hk => by have := (HR1.out.r2.lt k hk).1; omega)).setCell (by simp; omega) _
  have HP2 := Lib.hid hP
  clear hown2 hgrow2 hloc2 hat2 hxo hr1 hP hne2
  go_wp2_with fail
  generalize w2.setCell ⟨S, 2, none⟩ (.slice (some ⟨g2, 0, none⟩) (j + 1) cp2) = w3 at HP2 K2 ⊢
  have s33 := HP2.out.s3
  have bm3 := K2.out.cell HB.out
  have hs3 := HP2.out.lt
  clear st2 sf2 s2 HR1 K1
  go_region_law (first
    | (refine step_append_lies _ (by rfl) _ _ _ (by rfl) (S + 1) 3 i3 (.int .i64 0) 1 8 Try.underlying22 hi3 hy0 hy1 hy2 rfl (by decide) v3 j _ (by rfl) (HR4.out.r3.alloc _) ⟨w4.heap.size, 0, none⟩ 1 1 [.int .i64 (Lm f).ty] (by rfl) (by rfl) (cell_one_new _ _ _) (by simp [Value.oneCell']) (by omega) (by simp [maxLen]; omega) (by omega) (by have := hSw4; simp; omega) (w4.heap.size + 1) (by simp) ?_
       intro g3 cp3 w5 hown3 hgrow3 hat3 hlt3
       have HP3 := Lib.hid ((HR4.out.kept ((Kept.refl _).alloc (.cells #[.int .i64 (Lm f).ty] 3))).push3 _ g3 cp3 hown3 hgrow3 (hat3.imp id (fun e => by simp; omega)))
       have hSw5 : S < w5.heap.size := Nat.lt_of_lt_of_le hSw4 (by have := hgrow3.size; simp at this; omega)
       have hne3 : some S ≠ v3.ownBlock := fun e => by have := (HR4.out.r3.lt S e.symm).1; omega
       have st3 := hgrow3.cell (a := ⟨S, 3, none⟩) ((World.cell?_alloc_lt _ _ _ hSw4).trans HR4.out.s3) hne3
       have sf3 : w5.frozen? ⟨S, 3, none⟩ = false := by
         have := HP3.out.fz 3
         rwa [World.frozen?_setCell] at this
       have KP3 : Hid (Kept w0 (w5.setCell ⟨S, 3, none⟩ (.slice (some ⟨g3, 0, none⟩) (j + 1) cp3))) := (Below.grown ((Kw4.out).alloc (.cells #[.int .i64 (Lm f).ty] 3)) hgrow3 (Kw4.out.alloc _).size (fun k hk => by have := (HR4.out.r3.lt k hk).1; omega)).setCell (by simp; omega) _
       clear hown3 hgrow3 hat3 hlt3 hne3)
    | (go_simp; go_at_call 12; refine (mTyp_c _ (HM.out.kept (by first | exact K2.out | exact K2.out.drew))).mono ?_; rintro e w' ⟨rfl, rfl⟩)
    | (go_simp; go_at_call 60; refine (type_c _ _ _ _ _ _ _ ((HM.out.kept (by first | exact K2.out | exact K2.out.drew)).T)).mono ?_; rw [HF.out]; rintro e w4 ⟨rfl, hkw4⟩
       have HR4 := Lib.hid ((HP2.out.kept ((Kept.refl _).drew)).kept hkw4)
       have Kw4 := Lib.hid (K2.out.drew.trans hkw4)
       have hSw4 := HR4.out.lt
       have s3w4 := HR4.out.s3
       clear hkw4))
  all_goals
    go_wp2_with fail
    generalize w5.setCell ⟨S, 3, none⟩ (.slice (some ⟨g3, 0, none⟩) (j + 1) cp3) = w6 at HP3 KP3 ⊢
    have s44 := HP3.out.s4
    have bm6 := KP3.out.cell HB.out
    have hs6 := HP3.out.lt
    clear st3 sf3 s33 HR4 Kw4 K2 HP2 bm3 hs3 hSw4 s3w4 hSw5
    go_region_law (first
      | (refine step_append_lies _ (by rfl) _ _ _ (by rfl) (S + 1) 3 i3 (.int .i64 0) 1 8 Try.underlying22 hi3 hy0 hy1 hy2 rfl (by decide) v4 j _ (by rfl) (HR7.out.r4.alloc _) ⟨w7.heap.size, 0, none⟩ 1 1 [.int .i64 (Lm f).ct] (by rfl) (by rfl) (cell_one_new _ _ _) (by simp [Value.oneCell']) (by omega) (by simp [maxLen]; omega) (by omega) (by have := hSw7; simp; omega) (w7.heap.size + 1) (by simp) ?_
         intro g4 cp4 w8 hown4 hgrow4 hat4 hlt4
         have HP4 := Lib.hid ((HR7.out.kept ((Kept.refl _).alloc (.cells #[.int .i64 (Lm f).ct] 3))).push4 _ g4 cp4 hown4 hgrow4 (hat4.imp id (fun e => by simp; omega)))
         have hSw8 : S < w8.heap.size := Nat.lt_of_lt_of_le hSw7 (by have := hgrow4.size; simp at this; omega)
         have hne4 : some S ≠ v4.ownBlock := fun e => by have := (HR7.out.r4.lt S e.symm).1; omega
         have st4 := hgrow4.cell (a := ⟨S, 4, none⟩) ((World.cell?_alloc_lt _ _ _ hSw7).trans HR7.out.s4) hne4
         have sf4 : w8.frozen? ⟨S, 4, none⟩ = false := by
           have := HP4.out.fz 4
           rwa [World.frozen?_setCell] at this
         have KP4 : Hid (Kept w0 (w8.setCell ⟨S, 4, none⟩ (.slice (some ⟨g4, 0, none⟩) (j + 1) cp4))) := (Below.grown ((Kw7.out).alloc (.cells #[.int .i64 (Lm f).ct] 3)) hgrow4 (Kw7.out.alloc _).size (fun k hk => by have := (HR7.out.r4.lt k hk).1; omega)).setCell (by simp; omega) _
         clear hown4 hgrow4 hat4 hlt4 hne4)
      | (go_simp; go_at_call 12; refine (mTyp_c _ (HM.out.kept (by first | exact KP3.out | exact KP3.out.drew))).mono ?_; rintro e w' ⟨rfl, rfl⟩)
      | (go_simp; go_at_call 61; refine (count_c _ _ _ _ _ _ _ ((HM.out.kept (by first | exact KP3.out | exact KP3.out.drew)).T)).mono ?_; rw [HF.out]; rintro e w7 ⟨rfl, hkw7⟩
         have HR7 := Lib.hid ((HP3.out.kept ((Kept.refl _).drew)).kept hkw7)
         have Kw7 := Lib.hid (KP3.out.drew.trans hkw7)
         have hSw7 := HR7.out.lt
         have s4w7 := HR7.out.s4
         clear hkw7))
    all_goals
      go_wp2_with fail
      go_end0
      exact ⟨_, _, _, rfl, HP4.out, KP4.out⟩
end Go.Proofs.Ytcjadneamacilaa.C

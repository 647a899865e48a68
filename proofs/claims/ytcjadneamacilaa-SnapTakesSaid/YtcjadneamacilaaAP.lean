/- snap.Take and its reference where they may not. -/
import Derived.Test.YtcjadneamacilaaAO
namespace Go.Proofs.Ytcjadneamacilaa.C
open Go.RowKit

set_option maxRecDepth 100000 in
set_option maxHeartbeats 2000000 in
theorem take_bad (w : World) (mb mm ms tb sb n cap : Nat) (Zm : Nat → Nat → Int) (Lm : Nat → Fm) (a b : Int) (hM : Mc w mb mm ms tb sb n cap Zm Lm) (h : ¬ (0 ≤ a ∧ b ≤ n ∧ a ≤ b)) :
    Calls Try.prog 17 #[.pointer (some ⟨mb, 0, none⟩), .int .i64 a, .int .i64 b] w fun e w' => e = .returned (.tuple #[.agg #[.int .i64 0, .int .i64 0, .slice none 0 0, .slice none 0 0, .slice none 0 0], .int .i64 1]) ∧ Kept w w' := by
  have K0 : Hid (Kept w ((w.alloc (.cells #[.pointer (some ⟨mb, 0, none⟩)] 27)).alloc (.cells #[.int .i64 0, .int .i64 0, .slice none 0 0, .slice none 0 0, .slice none 0 0] 56))) := ((Kept.refl w).alloc _).alloc _
  have HM := Lib.hid (hM.kept K0.out)
  clear hM
  by_cases h1 : a < 0
  · clear h
    go_enter Try.func17, Try.ntmps17
    have c0 : ((w.alloc (.cells #[.pointer (some ⟨mb, 0, none⟩)] 27)).alloc (.cells #[.int .i64 0, .int .i64 0, .slice none 0 0, .slice none 0 0, .slice none 0 0] 56)).cell? ⟨w.heap.size + 1, 0, none⟩ = some (.int .i64 0) := by rw [show w.heap.size + 1 = (w.alloc (.cells #[.pointer (some ⟨mb, 0, none⟩)] 27)).heap.size from by simp, World.cell?_alloc_new]; rfl
    have c1 : ((w.alloc (.cells #[.pointer (some ⟨mb, 0, none⟩)] 27)).alloc (.cells #[.int .i64 0, .int .i64 0, .slice none 0 0, .slice none 0 0, .slice none 0 0] 56)).cell? ⟨w.heap.size + 1, 1, none⟩ = some (.int .i64 0) := by rw [show w.heap.size + 1 = (w.alloc (.cells #[.pointer (some ⟨mb, 0, none⟩)] 27)).heap.size from by simp, World.cell?_alloc_new]; rfl
    have c2 : ((w.alloc (.cells #[.pointer (some ⟨mb, 0, none⟩)] 27)).alloc (.cells #[.int .i64 0, .int .i64 0, .slice none 0 0, .slice none 0 0, .slice none 0 0] 56)).cell? ⟨w.heap.size + 1, 2, none⟩ = some (.slice none 0 0) := by rw [show w.heap.size + 1 = (w.alloc (.cells #[.pointer (some ⟨mb, 0, none⟩)] 27)).heap.size from by simp, World.cell?_alloc_new]; rfl
    have c3 : ((w.alloc (.cells #[.pointer (some ⟨mb, 0, none⟩)] 27)).alloc (.cells #[.int .i64 0, .int .i64 0, .slice none 0 0, .slice none 0 0, .slice none 0 0] 56)).cell? ⟨w.heap.size + 1, 3, none⟩ = some (.slice none 0 0) := by rw [show w.heap.size + 1 = (w.alloc (.cells #[.pointer (some ⟨mb, 0, none⟩)] 27)).heap.size from by simp, World.cell?_alloc_new]; rfl
    have c4 : ((w.alloc (.cells #[.pointer (some ⟨mb, 0, none⟩)] 27)).alloc (.cells #[.int .i64 0, .int .i64 0, .slice none 0 0, .slice none 0 0, .slice none 0 0] 56)).cell? ⟨w.heap.size + 1, 4, none⟩ = some (.slice none 0 0) := by rw [show w.heap.size + 1 = (w.alloc (.cells #[.pointer (some ⟨mb, 0, none⟩)] 27)).heap.size from by simp, World.cell?_alloc_new]; rfl
    have hz : ∀ o, ((w.alloc (.cells #[.pointer (some ⟨mb, 0, none⟩)] 27)).alloc (.cells #[.int .i64 0, .int .i64 0, .slice none 0 0, .slice none 0 0, .slice none 0 0] 56)).frozen? ⟨w.heap.size + 1, o, none⟩ = false := fun o => by simp only [frozen?_alloc_cells]; simp [World.frozen?]
    have z0 := hz 0
    have z1 := hz 1
    have z2 := hz 2
    have z3 := hz 3
    have z4 := hz 4
    clear hz
    have bm : ((w.alloc (.cells #[.pointer (some ⟨mb, 0, none⟩)] 27)).alloc (.cells #[.int .i64 0, .int .i64 0, .slice none 0 0, .slice none 0 0, .slice none 0 0] 56)).cell? ⟨w.heap.size, 0, none⟩ = some (.pointer (some ⟨mb, 0, none⟩)) := by rw [World.cell?_alloc_lt _ _ _ (by simp)]; simp
    go_upto_region 1 with fail
    generalize ((w.alloc (.cells #[.pointer (some ⟨mb, 0, none⟩)] 27)).alloc (.cells #[.int .i64 0, .int .i64 0, .slice none 0 0, .slice none 0 0, .slice none 0 0] 56)) = X at K0 HM c0 c1 c2 c3 c4 z0 z1 z2 z3 z4 bm ⊢
    go_wp2_with (first
        | (go_at_call 56; refine (mCores_c _ HM.out).mono ?_; rintro e w' ⟨rfl, rfl⟩)
        | (go_at_call 9; refine (mMem_c _ HM.out).mono ?_; rintro e w' ⟨rfl, rfl⟩)
        | (go_at_call 57; refine (memlen_c _ _ _ _ _ HM.out.M).mono ?_; rintro e w' ⟨rfl, rfl⟩))
    have hKF : Kept w (((((X.setCell ⟨w.heap.size + 1, 0, none⟩ (.int .i64 0)).setCell ⟨w.heap.size + 1, 1, none⟩ (.int .i64 0)).setCell ⟨w.heap.size + 1, 2, none⟩ (.slice none 0 0)).setCell ⟨w.heap.size + 1, 3, none⟩ (.slice none 0 0)).setCell ⟨w.heap.size + 1, 4, none⟩ (.slice none 0 0)) := (((((K0.out.setCell (p := ⟨w.heap.size + 1, 0, none⟩) (by simp) _).setCell (p := ⟨w.heap.size + 1, 1, none⟩) (by simp) _).setCell (p := ⟨w.heap.size + 1, 2, none⟩) (by simp) _).setCell (p := ⟨w.heap.size + 1, 3, none⟩) (by simp) _).setCell (p := ⟨w.heap.size + 1, 4, none⟩) (by simp) _)
    obtain ⟨q0, q1, q2, q3, q4⟩ := five X (w.heap.size + 1) (.int .i64 0) (.int .i64 0) (.slice none 0 0) (.slice none 0 0) (.slice none 0 0) _ _ _ _ _ c0 c1 c2 c3 c4
    generalize (((((X.setCell ⟨w.heap.size + 1, 0, none⟩ (.int .i64 0)).setCell ⟨w.heap.size + 1, 1, none⟩ (.int .i64 0)).setCell ⟨w.heap.size + 1, 2, none⟩ (.slice none 0 0)).setCell ⟨w.heap.size + 1, 3, none⟩ (.slice none 0 0)).setCell ⟨w.heap.size + 1, 4, none⟩ (.slice none 0 0)) = WF at hKF q0 q1 q2 q3 q4 ⊢
    exact bodyPost_ret (v := .tuple #[.agg #[.int .i64 0, .int .i64 0, .slice none 0 0, .slice none 0 0, .slice none 0 0], .int .i64 1]) (by simp [results, Try.results17, go_sem, q0, q1, q2, q3, q4]) rfl ⟨rfl, hKF⟩

  · by_cases h2 : (n : Int) < b
    · clear h
      go_enter Try.func17, Try.ntmps17
      have c0 : ((w.alloc (.cells #[.pointer (some ⟨mb, 0, none⟩)] 27)).alloc (.cells #[.int .i64 0, .int .i64 0, .slice none 0 0, .slice none 0 0, .slice none 0 0] 56)).cell? ⟨w.heap.size + 1, 0, none⟩ = some (.int .i64 0) := by rw [show w.heap.size + 1 = (w.alloc (.cells #[.pointer (some ⟨mb, 0, none⟩)] 27)).heap.size from by simp, World.cell?_alloc_new]; rfl
      have c1 : ((w.alloc (.cells #[.pointer (some ⟨mb, 0, none⟩)] 27)).alloc (.cells #[.int .i64 0, .int .i64 0, .slice none 0 0, .slice none 0 0, .slice none 0 0] 56)).cell? ⟨w.heap.size + 1, 1, none⟩ = some (.int .i64 0) := by rw [show w.heap.size + 1 = (w.alloc (.cells #[.pointer (some ⟨mb, 0, none⟩)] 27)).heap.size from by simp, World.cell?_alloc_new]; rfl
      have c2 : ((w.alloc (.cells #[.pointer (some ⟨mb, 0, none⟩)] 27)).alloc (.cells #[.int .i64 0, .int .i64 0, .slice none 0 0, .slice none 0 0, .slice none 0 0] 56)).cell? ⟨w.heap.size + 1, 2, none⟩ = some (.slice none 0 0) := by rw [show w.heap.size + 1 = (w.alloc (.cells #[.pointer (some ⟨mb, 0, none⟩)] 27)).heap.size from by simp, World.cell?_alloc_new]; rfl
      have c3 : ((w.alloc (.cells #[.pointer (some ⟨mb, 0, none⟩)] 27)).alloc (.cells #[.int .i64 0, .int .i64 0, .slice none 0 0, .slice none 0 0, .slice none 0 0] 56)).cell? ⟨w.heap.size + 1, 3, none⟩ = some (.slice none 0 0) := by rw [show w.heap.size + 1 = (w.alloc (.cells #[.pointer (some ⟨mb, 0, none⟩)] 27)).heap.size from by simp, World.cell?_alloc_new]; rfl
      have c4 : ((w.alloc (.cells #[.pointer (some ⟨mb, 0, none⟩)] 27)).alloc (.cells #[.int .i64 0, .int .i64 0, .slice none 0 0, .slice none 0 0, .slice none 0 0] 56)).cell? ⟨w.heap.size + 1, 4, none⟩ = some (.slice none 0 0) := by rw [show w.heap.size + 1 = (w.alloc (.cells #[.pointer (some ⟨mb, 0, none⟩)] 27)).heap.size from by simp, World.cell?_alloc_new]; rfl
      have hz : ∀ o, ((w.alloc (.cells #[.pointer (some ⟨mb, 0, none⟩)] 27)).alloc (.cells #[.int .i64 0, .int .i64 0, .slice none 0 0, .slice none 0 0, .slice none 0 0] 56)).frozen? ⟨w.heap.size + 1, o, none⟩ = false := fun o => by simp only [frozen?_alloc_cells]; simp [World.frozen?]
      have z0 := hz 0
      have z1 := hz 1
      have z2 := hz 2
      have z3 := hz 3
      have z4 := hz 4
      clear hz
      have bm : ((w.alloc (.cells #[.pointer (some ⟨mb, 0, none⟩)] 27)).alloc (.cells #[.int .i64 0, .int .i64 0, .slice none 0 0, .slice none 0 0, .slice none 0 0] 56)).cell? ⟨w.heap.size, 0, none⟩ = some (.pointer (some ⟨mb, 0, none⟩)) := by rw [World.cell?_alloc_lt _ _ _ (by simp)]; simp
      go_upto_region 1 with fail
      generalize ((w.alloc (.cells #[.pointer (some ⟨mb, 0, none⟩)] 27)).alloc (.cells #[.int .i64 0, .int .i64 0, .slice none 0 0, .slice none 0 0, .slice none 0 0] 56)) = X at K0 HM c0 c1 c2 c3 c4 z0 z1 z2 z3 z4 bm ⊢
      go_wp2_with (first
          | (go_at_call 56; refine (mCores_c _ HM.out).mono ?_; rintro e w' ⟨rfl, rfl⟩)
          | (go_at_call 9; refine (mMem_c _ HM.out).mono ?_; rintro e w' ⟨rfl, rfl⟩)
          | (go_at_call 57; refine (memlen_c _ _ _ _ _ HM.out.M).mono ?_; rintro e w' ⟨rfl, rfl⟩))
      have hKF : Kept w (((((X.setCell ⟨w.heap.size + 1, 0, none⟩ (.int .i64 0)).setCell ⟨w.heap.size + 1, 1, none⟩ (.int .i64 0)).setCell ⟨w.heap.size + 1, 2, none⟩ (.slice none 0 0)).setCell ⟨w.heap.size + 1, 3, none⟩ (.slice none 0 0)).setCell ⟨w.heap.size + 1, 4, none⟩ (.slice none 0 0)) := (((((K0.out.setCell (p := ⟨w.heap.size + 1, 0, none⟩) (by simp) _).setCell (p := ⟨w.heap.size + 1, 1, none⟩) (by simp) _).setCell (p := ⟨w.heap.size + 1, 2, none⟩) (by simp) _).setCell (p := ⟨w.heap.size + 1, 3, none⟩) (by simp) _).setCell (p := ⟨w.heap.size + 1, 4, none⟩) (by simp) _)
      obtain ⟨q0, q1, q2, q3, q4⟩ := five X (w.heap.size + 1) (.int .i64 0) (.int .i64 0) (.slice none 0 0) (.slice none 0 0) (.slice none 0 0) _ _ _ _ _ c0 c1 c2 c3 c4
      generalize (((((X.setCell ⟨w.heap.size + 1, 0, none⟩ (.int .i64 0)).setCell ⟨w.heap.size + 1, 1, none⟩ (.int .i64 0)).setCell ⟨w.heap.size + 1, 2, none⟩ (.slice none 0 0)).setCell ⟨w.heap.size + 1, 3, none⟩ (.slice none 0 0)).setCell ⟨w.heap.size + 1, 4, none⟩ (.slice none 0 0)) = WF at hKF q0 q1 q2 q3 q4 ⊢
      exact bodyPost_ret (v := .tuple #[.agg #[.int .i64 0, .int .i64 0, .slice none 0 0, .slice none 0 0, .slice none 0 0], .int .i64 1]) (by simp [results, Try.results17, go_sem, q0, q1, q2, q3, q4]) rfl ⟨rfl, hKF⟩

    · have h3 : b < a := by omega
      clear h
      go_enter Try.func17, Try.ntmps17
      have c0 : ((w.alloc (.cells #[.pointer (some ⟨mb, 0, none⟩)] 27)).alloc (.cells #[.int .i64 0, .int .i64 0, .slice none 0 0, .slice none 0 0, .slice none 0 0] 56)).cell? ⟨w.heap.size + 1, 0, none⟩ = some (.int .i64 0) := by rw [show w.heap.size + 1 = (w.alloc (.cells #[.pointer (some ⟨mb, 0, none⟩)] 27)).heap.size from by simp, World.cell?_alloc_new]; rfl
      have c1 : ((w.alloc (.cells #[.pointer (some ⟨mb, 0, none⟩)] 27)).alloc (.cells #[.int .i64 0, .int .i64 0, .slice none 0 0, .slice none 0 0, .slice none 0 0] 56)).cell? ⟨w.heap.size + 1, 1, none⟩ = some (.int .i64 0) := by rw [show w.heap.size + 1 = (w.alloc (.cells #[.pointer (some ⟨mb, 0, none⟩)] 27)).heap.size from by simp, World.cell?_alloc_new]; rfl
      have c2 : ((w.alloc (.cells #[.pointer (some ⟨mb, 0, none⟩)] 27)).alloc (.cells #[.int .i64 0, .int .i64 0, .slice none 0 0, .slice none 0 0, .slice none 0 0] 56)).cell? ⟨w.heap.size + 1, 2, none⟩ = some (.slice none 0 0) := by rw [show w.heap.size + 1 = (w.alloc (.cells #[.pointer (some ⟨mb, 0, none⟩)] 27)).heap.size from by simp, World.cell?_alloc_new]; rfl
      have c3 : ((w.alloc (.cells #[.pointer (some ⟨mb, 0, none⟩)] 27)).alloc (.cells #[.int .i64 0, .int .i64 0, .slice none 0 0, .slice none 0 0, .slice none 0 0] 56)).cell? ⟨w.heap.size + 1, 3, none⟩ = some (.slice none 0 0) := by rw [show w.heap.size + 1 = (w.alloc (.cells #[.pointer (some ⟨mb, 0, none⟩)] 27)).heap.size from by simp, World.cell?_alloc_new]; rfl
      have c4 : ((w.alloc (.cells #[.pointer (some ⟨mb, 0, none⟩)] 27)).alloc (.cells #[.int .i64 0, .int .i64 0, .slice none 0 0, .slice none 0 0, .slice none 0 0] 56)).cell? ⟨w.heap.size + 1, 4, none⟩ = some (.slice none 0 0) := by rw [show w.heap.size + 1 = (w.alloc (.cells #[.pointer (some ⟨mb, 0, none⟩)] 27)).heap.size from by simp, World.cell?_alloc_new]; rfl
      have hz : ∀ o, ((w.alloc (.cells #[.pointer (some ⟨mb, 0, none⟩)] 27)).alloc (.cells #[.int .i64 0, .int .i64 0, .slice none 0 0, .slice none 0 0, .slice none 0 0] 56)).frozen? ⟨w.heap.size + 1, o, none⟩ = false := fun o => by simp only [frozen?_alloc_cells]; simp [World.frozen?]
      have z0 := hz 0
      have z1 := hz 1
      have z2 := hz 2
      have z3 := hz 3
      have z4 := hz 4
      clear hz
      have bm : ((w.alloc (.cells #[.pointer (some ⟨mb, 0, none⟩)] 27)).alloc (.cells #[.int .i64 0, .int .i64 0, .slice none 0 0, .slice none 0 0, .slice none 0 0] 56)).cell? ⟨w.heap.size, 0, none⟩ = some (.pointer (some ⟨mb, 0, none⟩)) := by rw [World.cell?_alloc_lt _ _ _ (by simp)]; simp
      go_upto_region 1 with fail
      generalize ((w.alloc (.cells #[.pointer (some ⟨mb, 0, none⟩)] 27)).alloc (.cells #[.int .i64 0, .int .i64 0, .slice none 0 0, .slice none 0 0, .slice none 0 0] 56)) = X at K0 HM c0 c1 c2 c3 c4 z0 z1 z2 z3 z4 bm ⊢
      go_wp2_with (first
          | (go_at_call 56; refine (mCores_c _ HM.out).mono ?_; rintro e w' ⟨rfl, rfl⟩)
          | (go_at_call 9; refine (mMem_c _ HM.out).mono ?_; rintro e w' ⟨rfl, rfl⟩)
          | (go_at_call 57; refine (memlen_c _ _ _ _ _ HM.out.M).mono ?_; rintro e w' ⟨rfl, rfl⟩))
      have hKF : Kept w (((((X.setCell ⟨w.heap.size + 1, 0, none⟩ (.int .i64 0)).setCell ⟨w.heap.size + 1, 1, none⟩ (.int .i64 0)).setCell ⟨w.heap.size + 1, 2, none⟩ (.slice none 0 0)).setCell ⟨w.heap.size + 1, 3, none⟩ (.slice none 0 0)).setCell ⟨w.heap.size + 1, 4, none⟩ (.slice none 0 0)) := (((((K0.out.setCell (p := ⟨w.heap.size + 1, 0, none⟩) (by simp) _).setCell (p := ⟨w.heap.size + 1, 1, none⟩) (by simp) _).setCell (p := ⟨w.heap.size + 1, 2, none⟩) (by simp) _).setCell (p := ⟨w.heap.size + 1, 3, none⟩) (by simp) _).setCell (p := ⟨w.heap.size + 1, 4, none⟩) (by simp) _)
      obtain ⟨q0, q1, q2, q3, q4⟩ := five X (w.heap.size + 1) (.int .i64 0) (.int .i64 0) (.slice none 0 0) (.slice none 0 0) (.slice none 0 0) _ _ _ _ _ c0 c1 c2 c3 c4
      generalize (((((X.setCell ⟨w.heap.size + 1, 0, none⟩ (.int .i64 0)).setCell ⟨w.heap.size + 1, 1, none⟩ (.int .i64 0)).setCell ⟨w.heap.size + 1, 2, none⟩ (.slice none 0 0)).setCell ⟨w.heap.size + 1, 3, none⟩ (.slice none 0 0)).setCell ⟨w.heap.size + 1, 4, none⟩ (.slice none 0 0)) = WF at hKF q0 q1 q2 q3 q4 ⊢
      exact bodyPost_ret (v := .tuple #[.agg #[.int .i64 0, .int .i64 0, .slice none 0 0, .slice none 0 0, .slice none 0 0], .int .i64 1]) (by simp [results, Try.results17, go_sem, q0, q1, q2, q3, q4]) rfl ⟨rfl, hKF⟩


set_option maxRecDepth 100000 in
set_option maxHeartbeats 2000000 in
theorem rtake_bad (w : World) (lo vb rm rf tb sb n cap capt : Nat) (G0 Q0 : Nat → Nat) (Zm : Nat → Nat → Int) (Lm : Nat → Fm) (a b : Int) (hM : Vc w lo vb rm rf tb sb n cap capt G0 Q0 Zm Lm) (h : ¬ (0 ≤ a ∧ b ≤ n ∧ a ≤ b)) :
    Calls Try.prog 18 #[.pointer (some ⟨vb, 0, none⟩), .int .i64 a, .int .i64 b] w fun e w' => e = .returned (.tuple #[.agg #[.int .i64 0, .int .i64 0, .slice none 0 0, .slice none 0 0, .slice none 0 0], .int .i64 1]) ∧ Kept w w' := by
  have K0 : Hid (Kept w (w.alloc (.cells #[.int .i64 0, .int .i64 0, .slice none 0 0, .slice none 0 0, .slice none 0 0] 56))) := (Kept.refl w).alloc _
  have HM := Lib.hid (hM.kept K0.out)
  have hm0 := HM.out.m0
  have hmd := HM.out.M.hd
  clear hM
  by_cases h1 : a < 0
  · clear h
    go_enter Try.func18, Try.ntmps18
    have c0 : (w.alloc (.cells #[.int .i64 0, .int .i64 0, .slice none 0 0, .slice none 0 0, .slice none 0 0] 56)).cell? ⟨w.heap.size, 0, none⟩ = some (.int .i64 0) := by rw [World.cell?_alloc_new]; rfl
    have c1 : (w.alloc (.cells #[.int .i64 0, .int .i64 0, .slice none 0 0, .slice none 0 0, .slice none 0 0] 56)).cell? ⟨w.heap.size, 1, none⟩ = some (.int .i64 0) := by rw [World.cell?_alloc_new]; rfl
    have c2 : (w.alloc (.cells #[.int .i64 0, .int .i64 0, .slice none 0 0, .slice none 0 0, .slice none 0 0] 56)).cell? ⟨w.heap.size, 2, none⟩ = some (.slice none 0 0) := by rw [World.cell?_alloc_new]; rfl
    have c3 : (w.alloc (.cells #[.int .i64 0, .int .i64 0, .slice none 0 0, .slice none 0 0, .slice none 0 0] 56)).cell? ⟨w.heap.size, 3, none⟩ = some (.slice none 0 0) := by rw [World.cell?_alloc_new]; rfl
    have c4 : (w.alloc (.cells #[.int .i64 0, .int .i64 0, .slice none 0 0, .slice none 0 0, .slice none 0 0] 56)).cell? ⟨w.heap.size, 4, none⟩ = some (.slice none 0 0) := by rw [World.cell?_alloc_new]; rfl
    have hz : ∀ o, (w.alloc (.cells #[.int .i64 0, .int .i64 0, .slice none 0 0, .slice none 0 0, .slice none 0 0] 56)).frozen? ⟨w.heap.size, o, none⟩ = false := fun o => by simp only [frozen?_alloc_cells]; simp [World.frozen?]
    have z0 := hz 0
    have z1 := hz 1
    have z2 := hz 2
    have z3 := hz 3
    have z4 := hz 4
    clear hz
    go_upto_region 1 with fail
    generalize (w.alloc (.cells #[.int .i64 0, .int .i64 0, .slice none 0 0, .slice none 0 0, .slice none 0 0] 56)) = X at K0 HM c0 c1 c2 c3 c4 z0 z1 z2 z3 z4 hm0 hmd ⊢
    go_wp2_with fail
    have hKF : Kept w (((((X.setCell ⟨w.heap.size, 0, none⟩ (.int .i64 0)).setCell ⟨w.heap.size, 1, none⟩ (.int .i64 0)).setCell ⟨w.heap.size, 2, none⟩ (.slice none 0 0)).setCell ⟨w.heap.size, 3, none⟩ (.slice none 0 0)).setCell ⟨w.heap.size, 4, none⟩ (.slice none 0 0)) := (((((K0.out.setCell (p := ⟨w.heap.size, 0, none⟩) (by simp) _).setCell (p := ⟨w.heap.size, 1, none⟩) (by simp) _).setCell (p := ⟨w.heap.size, 2, none⟩) (by simp) _).setCell (p := ⟨w.heap.size, 3, none⟩) (by simp) _).setCell (p := ⟨w.heap.size, 4, none⟩) (by simp) _)
    obtain ⟨q0, q1, q2, q3, q4⟩ := five X (w.heap.size) (.int .i64 0) (.int .i64 0) (.slice none 0 0) (.slice none 0 0) (.slice none 0 0) _ _ _ _ _ c0 c1 c2 c3 c4
    generalize (((((X.setCell ⟨w.heap.size, 0, none⟩ (.int .i64 0)).setCell ⟨w.heap.size, 1, none⟩ (.int .i64 0)).setCell ⟨w.heap.size, 2, none⟩ (.slice none 0 0)).setCell ⟨w.heap.size, 3, none⟩ (.slice none 0 0)).setCell ⟨w.heap.size, 4, none⟩ (.slice none 0 0)) = WF at hKF q0 q1 q2 q3 q4 ⊢
    exact bodyPost_ret (v := .tuple #[.agg #[.int .i64 0, .int .i64 0, .slice none 0 0, .slice none 0 0, .slice none 0 0], .int .i64 1]) (by simp [results, Try.results18, go_sem, q0, q1, q2, q3, q4]) rfl ⟨rfl, hKF⟩

  · by_cases h2 : (n : Int) < b
    · clear h
      go_enter Try.func18, Try.ntmps18
      have c0 : (w.alloc (.cells #[.int .i64 0, .int .i64 0, .slice none 0 0, .slice none 0 0, .slice none 0 0] 56)).cell? ⟨w.heap.size, 0, none⟩ = some (.int .i64 0) := by rw [World.cell?_alloc_new]; rfl
      have c1 : (w.alloc (.cells #[.int .i64 0, .int .i64 0, .slice none 0 0, .slice none 0 0, .slice none 0 0] 56)).cell? ⟨w.heap.size, 1, none⟩ = some (.int .i64 0) := by rw [World.cell?_alloc_new]; rfl
      have c2 : (w.alloc (.cells #[.int .i64 0, .int .i64 0, .slice none 0 0, .slice none 0 0, .slice none 0 0] 56)).cell? ⟨w.heap.size, 2, none⟩ = some (.slice none 0 0) := by rw [World.cell?_alloc_new]; rfl
      have c3 : (w.alloc (.cells #[.int .i64 0, .int .i64 0, .slice none 0 0, .slice none 0 0, .slice none 0 0] 56)).cell? ⟨w.heap.size, 3, none⟩ = some (.slice none 0 0) := by rw [World.cell?_alloc_new]; rfl
      have c4 : (w.alloc (.cells #[.int .i64 0, .int .i64 0, .slice none 0 0, .slice none 0 0, .slice none 0 0] 56)).cell? ⟨w.heap.size, 4, none⟩ = some (.slice none 0 0) := by rw [World.cell?_alloc_new]; rfl
      have hz : ∀ o, (w.alloc (.cells #[.int .i64 0, .int .i64 0, .slice none 0 0, .slice none 0 0, .slice none 0 0] 56)).frozen? ⟨w.heap.size, o, none⟩ = false := fun o => by simp only [frozen?_alloc_cells]; simp [World.frozen?]
      have z0 := hz 0
      have z1 := hz 1
      have z2 := hz 2
      have z3 := hz 3
      have z4 := hz 4
      clear hz
      go_upto_region 1 with fail
      generalize (w.alloc (.cells #[.int .i64 0, .int .i64 0, .slice none 0 0, .slice none 0 0, .slice none 0 0] 56)) = X at K0 HM c0 c1 c2 c3 c4 z0 z1 z2 z3 z4 hm0 hmd ⊢
      go_wp2_with fail
      have hKF : Kept w (((((X.setCell ⟨w.heap.size, 0, none⟩ (.int .i64 0)).setCell ⟨w.heap.size, 1, none⟩ (.int .i64 0)).setCell ⟨w.heap.size, 2, none⟩ (.slice none 0 0)).setCell ⟨w.heap.size, 3, none⟩ (.slice none 0 0)).setCell ⟨w.heap.size, 4, none⟩ (.slice none 0 0)) := (((((K0.out.setCell (p := ⟨w.heap.size, 0, none⟩) (by simp) _).setCell (p := ⟨w.heap.size, 1, none⟩) (by simp) _).setCell (p := ⟨w.heap.size, 2, none⟩) (by simp) _).setCell (p := ⟨w.heap.size, 3, none⟩) (by simp) _).setCell (p := ⟨w.heap.size, 4, none⟩) (by simp) _)
      obtain ⟨q0, q1, q2, q3, q4⟩ := five X (w.heap.size) (.int .i64 0) (.int .i64 0) (.slice none 0 0) (.slice none 0 0) (.slice none 0 0) _ _ _ _ _ c0 c1 c2 c3 c4
      generalize (((((X.setCell ⟨w.heap.size, 0, none⟩ (.int .i64 0)).setCell ⟨w.heap.size, 1, none⟩ (.int .i64 0)).setCell ⟨w.heap.size, 2, none⟩ (.slice none 0 0)).setCell ⟨w.heap.size, 3, none⟩ (.slice none 0 0)).setCell ⟨w.heap.size, 4, none⟩ (.slice none 0 0)) = WF at hKF q0 q1 q2 q3 q4 ⊢
      exact bodyPost_ret (v := .tuple #[.agg #[.int .i64 0, .int .i64 0, .slice none 0 0, .slice none 0 0, .slice none 0 0], .int .i64 1]) (by simp [results, Try.results18, go_sem, q0, q1, q2, q3, q4]) rfl ⟨rfl, hKF⟩

    · have h3 : b < a := by omega
      clear h
      go_enter Try.func18, Try.ntmps18
      have c0 : (w.alloc (.cells #[.int .i64 0, .int .i64 0, .slice none 0 0, .slice none 0 0, .slice none 0 0] 56)).cell? ⟨w.heap.size, 0, none⟩ = some (.int .i64 0) := by rw [World.cell?_alloc_new]; rfl
      have c1 : (w.alloc (.cells #[.int .i64 0, .int .i64 0, .slice none 0 0, .slice none 0 0, .slice none 0 0] 56)).cell? ⟨w.heap.size, 1, none⟩ = some (.int .i64 0) := by rw [World.cell?_alloc_new]; rfl
      have c2 : (w.alloc (.cells #[.int .i64 0, .int .i64 0, .slice none 0 0, .slice none 0 0, .slice none 0 0] 56)).cell? ⟨w.heap.size, 2, none⟩ = some (.slice none 0 0) := by rw [World.cell?_alloc_new]; rfl
      have c3 : (w.alloc (.cells #[.int .i64 0, .int .i64 0, .slice none 0 0, .slice none 0 0, .slice none 0 0] 56)).cell? ⟨w.heap.size, 3, none⟩ = some (.slice none 0 0) := by rw [World.cell?_alloc_new]; rfl
      have c4 : (w.alloc (.cells #[.int .i64 0, .int .i64 0, .slice none 0 0, .slice none 0 0, .slice none 0 0] 56)).cell? ⟨w.heap.size, 4, none⟩ = some (.slice none 0 0) := by rw [World.cell?_alloc_new]; rfl
      have hz : ∀ o, (w.alloc (.cells #[.int .i64 0, .int .i64 0, .slice none 0 0, .slice none 0 0, .slice none 0 0] 56)).frozen? ⟨w.heap.size, o, none⟩ = false := fun o => by simp only [frozen?_alloc_cells]; simp [World.frozen?]
      have z0 := hz 0
      have z1 := hz 1
      have z2 := hz 2
      have z3 := hz 3
      have z4 := hz 4
      clear hz
      go_upto_region 1 with fail
      generalize (w.alloc (.cells #[.int .i64 0, .int .i64 0, .slice none 0 0, .slice none 0 0, .slice none 0 0] 56)) = X at K0 HM c0 c1 c2 c3 c4 z0 z1 z2 z3 z4 hm0 hmd ⊢
      go_wp2_with fail
      have hKF : Kept w (((((X.setCell ⟨w.heap.size, 0, none⟩ (.int .i64 0)).setCell ⟨w.heap.size, 1, none⟩ (.int .i64 0)).setCell ⟨w.heap.size, 2, none⟩ (.slice none 0 0)).setCell ⟨w.heap.size, 3, none⟩ (.slice none 0 0)).setCell ⟨w.heap.size, 4, none⟩ (.slice none 0 0)) := (((((K0.out.setCell (p := ⟨w.heap.size, 0, none⟩) (by simp) _).setCell (p := ⟨w.heap.size, 1, none⟩) (by simp) _).setCell (p := ⟨w.heap.size, 2, none⟩) (by simp) _).setCell (p := ⟨w.heap.size, 3, none⟩) (by simp) _).setCell (p := ⟨w.heap.size, 4, none⟩) (by simp) _)
      obtain ⟨q0, q1, q2, q3, q4⟩ := five X (w.heap.size) (.int .i64 0) (.int .i64 0) (.slice none 0 0) (.slice none 0 0) (.slice none 0 0) _ _ _ _ _ c0 c1 c2 c3 c4
      generalize (((((X.setCell ⟨w.heap.size, 0, none⟩ (.int .i64 0)).setCell ⟨w.heap.size, 1, none⟩ (.int .i64 0)).setCell ⟨w.heap.size, 2, none⟩ (.slice none 0 0)).setCell ⟨w.heap.size, 3, none⟩ (.slice none 0 0)).setCell ⟨w.heap.size, 4, none⟩ (.slice none 0 0)) = WF at hKF q0 q1 q2 q3 q4 ⊢
      exact bodyPost_ret (v := .tuple #[.agg #[.int .i64 0, .int .i64 0, .slice none 0 0, .slice none 0 0, .slice none 0 0], .int .i64 1]) (by simp [results, Try.results18, go_sem, q0, q1, q2, q3, q4]) rfl ⟨rfl, hKF⟩


theorem none_nil (w : World) : Calls Try.prog 51 #[.pointer none] w fun e w' => e = .returned (.bool true) ∧ w = w' := by
  go_enter Try.func51, Try.ntmps51
  go_wp2
  go_ret
  exact ⟨rfl, rfl⟩
theorem none_zero (w : World) (zb : Nat) (h : w.cell? ⟨zb, 0, none⟩ = some (.pointer none)) : Calls Try.prog 51 #[.pointer (some ⟨zb, 0, none⟩)] w fun e w' => e = .returned (.bool true) ∧ w = w' := by
  go_enter Try.func51, Try.ntmps51
  go_wp2
  go_ret
  exact ⟨rfl, rfl⟩
theorem cores_none (w : World) (pm : Option Addr) (h : Calls Try.prog 51 #[.pointer pm] w fun e w' => e = .returned (.bool true) ∧ w = w') : Calls Try.prog 56 #[.pointer pm] w fun e w' => e = .returned (.int .i64 0) ∧ w = w' := by
  have H := Lib.hid h
  clear h
  go_enter Try.func56, Try.ntmps56
  go_wp2_with (go_at_call 51; refine H.out.mono ?_; rintro e w' ⟨rfl, rfl⟩)
  go_ret
  exact ⟨rfl, rfl⟩
set_option maxRecDepth 100000 in
set_option maxHeartbeats 2000000 in
theorem take_none (w : World) (pm : Option Addr) (a b : Int) (h : ∀ W, Kept w W → Calls Try.prog 51 #[.pointer pm] W fun e w' => e = .returned (.bool true) ∧ W = w') :
    Calls Try.prog 17 #[.pointer pm, .int .i64 a, .int .i64 b] w fun e w' => e = .returned (.tuple #[.agg #[.int .i64 0, .int .i64 0, .slice none 0 0, .slice none 0 0, .slice none 0 0], .int .i64 13]) ∧ Kept w w' := by
  have K0 : Hid (Kept w ((w.alloc (.cells #[.pointer pm] 27)).alloc (.cells #[.int .i64 0, .int .i64 0, .slice none 0 0, .slice none 0 0, .slice none 0 0] 56))) := ((Kept.refl w).alloc _).alloc _
  have H56 : Hid (∀ W, Kept w W → Calls Try.prog 56 #[.pointer pm] W fun e w' => e = .returned (.int .i64 0) ∧ W = w') := fun W hW => cores_none W pm (h W hW)
  clear h
  go_enter Try.func17, Try.ntmps17
  have c0 : ((w.alloc (.cells #[.pointer pm] 27)).alloc (.cells #[.int .i64 0, .int .i64 0, .slice none 0 0, .slice none 0 0, .slice none 0 0] 56)).cell? ⟨w.heap.size + 1, 0, none⟩ = some (.int .i64 0) := by rw [show w.heap.size + 1 = (w.alloc (.cells #[.pointer pm] 27)).heap.size from by simp, World.cell?_alloc_new]; rfl
  have c1 : ((w.alloc (.cells #[.pointer pm] 27)).alloc (.cells #[.int .i64 0, .int .i64 0, .slice none 0 0, .slice none 0 0, .slice none 0 0] 56)).cell? ⟨w.heap.size + 1, 1, none⟩ = some (.int .i64 0) := by rw [show w.heap.size + 1 = (w.alloc (.cells #[.pointer pm] 27)).heap.size from by simp, World.cell?_alloc_new]; rfl
  have c2 : ((w.alloc (.cells #[.pointer pm] 27)).alloc (.cells #[.int .i64 0, .int .i64 0, .slice none 0 0, .slice none 0 0, .slice none 0 0] 56)).cell? ⟨w.heap.size + 1, 2, none⟩ = some (.slice none 0 0) := by rw [show w.heap.size + 1 = (w.alloc (.cells #[.pointer pm] 27)).heap.size from by simp, World.cell?_alloc_new]; rfl
  have c3 : ((w.alloc (.cells #[.pointer pm] 27)).alloc (.cells #[.int .i64 0, .int .i64 0, .slice none 0 0, .slice none 0 0, .slice none 0 0] 56)).cell? ⟨w.heap.size + 1, 3, none⟩ = some (.slice none 0 0) := by rw [show w.heap.size + 1 = (w.alloc (.cells #[.pointer pm] 27)).heap.size from by simp, World.cell?_alloc_new]; rfl
  have c4 : ((w.alloc (.cells #[.pointer pm] 27)).alloc (.cells #[.int .i64 0, .int .i64 0, .slice none 0 0, .slice none 0 0, .slice none 0 0] 56)).cell? ⟨w.heap.size + 1, 4, none⟩ = some (.slice none 0 0) := by rw [show w.heap.size + 1 = (w.alloc (.cells #[.pointer pm] 27)).heap.size from by simp, World.cell?_alloc_new]; rfl
  have hz : ∀ o, ((w.alloc (.cells #[.pointer pm] 27)).alloc (.cells #[.int .i64 0, .int .i64 0, .slice none 0 0, .slice none 0 0, .slice none 0 0] 56)).frozen? ⟨w.heap.size + 1, o, none⟩ = false := fun o => by simp only [frozen?_alloc_cells]; simp [World.frozen?]
  have z0 := hz 0
  have z1 := hz 1
  have z2 := hz 2
  have z3 := hz 3
  have z4 := hz 4
  clear hz

  have bm : ((w.alloc (.cells #[.pointer pm] 27)).alloc (.cells #[.int .i64 0, .int .i64 0, .slice none 0 0, .slice none 0 0, .slice none 0 0] 56)).cell? ⟨w.heap.size, 0, none⟩ = some (.pointer pm) := by rw [World.cell?_alloc_lt _ _ _ (by simp)]; simp
  go_upto_region 1 with fail
  generalize ((w.alloc (.cells #[.pointer pm] 27)).alloc (.cells #[.int .i64 0, .int .i64 0, .slice none 0 0, .slice none 0 0, .slice none 0 0] 56)) = X at K0 c0 c1 c2 c3 c4 z0 z1 z2 z3 z4 bm ⊢
  go_wp2_with (go_at_call 56; refine (H56.out _ K0.out).mono ?_; rintro e w' ⟨rfl, rfl⟩)
  have hKF : Kept w (((((X.setCell ⟨w.heap.size + 1, 0, none⟩ (.int .i64 0)).setCell ⟨w.heap.size + 1, 1, none⟩ (.int .i64 0)).setCell ⟨w.heap.size + 1, 2, none⟩ (.slice none 0 0)).setCell ⟨w.heap.size + 1, 3, none⟩ (.slice none 0 0)).setCell ⟨w.heap.size + 1, 4, none⟩ (.slice none 0 0)) := (((((K0.out.setCell (p := ⟨w.heap.size + 1, 0, none⟩) (by simp) _).setCell (p := ⟨w.heap.size + 1, 1, none⟩) (by simp) _).setCell (p := ⟨w.heap.size + 1, 2, none⟩) (by simp) _).setCell (p := ⟨w.heap.size + 1, 3, none⟩) (by simp) _).setCell (p := ⟨w.heap.size + 1, 4, none⟩) (by simp) _)
  obtain ⟨q0, q1, q2, q3, q4⟩ := five X (w.heap.size + 1) (.int .i64 0) (.int .i64 0) (.slice none 0 0) (.slice none 0 0) (.slice none 0 0) _ _ _ _ _ c0 c1 c2 c3 c4
  generalize (((((X.setCell ⟨w.heap.size + 1, 0, none⟩ (.int .i64 0)).setCell ⟨w.heap.size + 1, 1, none⟩ (.int .i64 0)).setCell ⟨w.heap.size + 1, 2, none⟩ (.slice none 0 0)).setCell ⟨w.heap.size + 1, 3, none⟩ (.slice none 0 0)).setCell ⟨w.heap.size + 1, 4, none⟩ (.slice none 0 0)) = WF at hKF q0 q1 q2 q3 q4 ⊢
  exact bodyPost_ret (v := .tuple #[.agg #[.int .i64 0, .int .i64 0, .slice none 0 0, .slice none 0 0, .slice none 0 0], .int .i64 13]) (by simp [results, Try.results17, go_sem, q0, q1, q2, q3, q4]) rfl ⟨rfl, hKF⟩

theorem take_nil (w : World) (a b : Int) : Calls Try.prog 17 #[.pointer none, .int .i64 a, .int .i64 b] w fun e w' => e = .returned (.tuple #[.agg #[.int .i64 0, .int .i64 0, .slice none 0 0, .slice none 0 0, .slice none 0 0], .int .i64 13]) ∧ Kept w w' :=
  take_none w none a b (fun W _ => none_nil W)
theorem take_zero (w : World) (zb : Nat) (a b : Int) (h : w.cell? ⟨zb, 0, none⟩ = some (.pointer none)) : Calls Try.prog 17 #[.pointer (some ⟨zb, 0, none⟩), .int .i64 a, .int .i64 b] w fun e w' => e = .returned (.tuple #[.agg #[.int .i64 0, .int .i64 0, .slice none 0 0, .slice none 0 0, .slice none 0 0], .int .i64 13]) ∧ Kept w w' :=
  take_none w _ a b (fun W hW => none_zero W zb (hW.cell h))
end Go.Proofs.Ytcjadneamacilaa.C

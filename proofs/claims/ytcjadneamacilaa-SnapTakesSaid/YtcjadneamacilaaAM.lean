/- The reference's clock; its machine. -/
import Derived.Test.YtcjadneamacilaaAL
import Derived.Test.YtcjadneamacilaaAJ
import Derived.Deep.CutBlock
namespace Go.Proofs.Ytcjadneamacilaa.C
open Go.RowKit

/-- A box of cells that lies there and may be written. -/
structure Bxs (w wr : World) (vb n : Nat) (x : Nat → Value) : Prop where
  k : Kept w wr
  f : ∀ i, i < n → wr.cell? ⟨vb, i, none⟩ = some (x i)
  fz : ∀ o, wr.frozen? ⟨vb, o, none⟩ = false
  lo : w.heap.size ≤ vb
  lt : vb < wr.heap.size
theorem Bxs.kept {w wr w' : World} {vb n : Nat} {x : Nat → Value} (h : Bxs w wr vb n x) (k : Kept wr w') : Bxs w w' vb n x :=
  ⟨h.k.trans k, fun i hi => k.cell (h.f i hi), fun o => (k.frozen (p := ⟨vb, o, none⟩) h.lt).trans (h.fz o), h.lo, Nat.lt_of_lt_of_le h.lt k.size⟩
theorem Bxs.set {w wr : World} {vb n : Nat} {x : Nat → Value} (h : Bxs w wr vb n x) (i : Nat) (v : Value) : Bxs w (wr.setCell ⟨vb, i, none⟩ v) vb n (updV x i v) := by
  refine ⟨h.k.setCell (p := ⟨vb, i, none⟩) h.lo _, fun j hj => ?_, fun o => by rw [World.frozen?_setCell]; exact h.fz o, h.lo, by have := h.lt; simpa [World.setCell] using this⟩
  by_cases e : j = i
  · subst e
    rw [World.cell?_setCell_same _ _ _ (h.f j hj)]; simp [updV]
  · rw [World.cell?_setCell_other _ _ _ _ (addr_ne (.inr (fun e' => e e'.symm))), h.f j hj]; simp [updV, e]
theorem grown_none {w w' : World} (g : w.grownBy w' none) : Kept w w' := Below.grown (Kept.refl w) g (Nat.le_refl _) (fun k hk => by cases hk)

set_option maxRecDepth 100000 in
set_option maxHeartbeats 2000000 in
theorem rclock_c (w : World) : Calls Try.prog 47 #[.int .i64 1] w fun e w' => ∃ b, e = .returned (.tuple #[.pointer (some ⟨b, 0, none⟩), .int .i64 0]) ∧ Kept w w' := by
  have infoE : (Try.prog.info? 3).map (fun i => (i.zero, i.size, i.bytes)) = some (some (.int .i64 0), 1, 8) := by kernel_rfl
  obtain ⟨i3, hi, hz0, hz1, hz2⟩ := info_parts infoE
  clear infoE
  go_enter Try.func47, Try.ntmps47
  go_wp2_with fail
  have H0 : Hid (Bxs w (w.alloc (.cells #[.int .i64 0, .slice none 0 0, .slice none 0 0, .slice none 0 0] 184)) w.heap.size 4 (fun i => if i = 0 then .int .i64 0 else .slice none 0 0)) := by
    refine ⟨(Kept.refl _).alloc _, fun i hi => ?_, fun o => by rw [frozen?_alloc_cells]; simp [World.frozen?], Nat.le_refl _, by simp⟩
    rw [World.cell?_alloc_new]
    match i, hi with
    | 0, _ => rfl
    | 1, _ => rfl
    | 2, _ => rfl
    | 3, _ => rfl
  generalize w.alloc (.cells #[.int .i64 0, .slice none 0 0, .slice none 0 0, .slice none 0 0] 184) = W0 at H0 ⊢
  have c1 : W0.cell? ⟨w.heap.size, 1, none⟩ = some (.slice none 0 0) := H0.out.f 1 (by omega)
  have hl0 := H0.out.lt
  refine wp_loop_rounds 2 ?_
  rw [rounds_succ]
  go_wp2_with (at_builtin; refine wpList_append_own_at _ rfl _ _ 22 rfl (w.heap.size) 3 i3 (.int .i64 0) 1 8 Try.underlying22 hi hz0 hz1 hz2 rfl (by decide) _ _ _ rfl (World.ownsRow_nil _ _ _ _) ⟨W0.heap.size, 0, none⟩ 1 1 [.int .i64 0] rfl rfl (cell_one_new _ _ _) ?a2 ?a3 ?a4 ?a5 ?_)
  case a2 => simp [Value.oneCell']
  case a3 => simp [maxLen]
  case a4 => omega
  case a5 => simp; omega

  intro v1 w1 hown1 hgrow1 _ _
  have H1 := Lib.hid (H0.out.kept (((Kept.refl _).alloc _).trans (grown_none hgrow1)))
  have d1 : w1.cell? ⟨w.heap.size, 1, none⟩ = some (.slice none 0 0) := H1.out.f 1 (by omega)
  have z1 := H1.out.fz 1
  obtain ⟨g1, p1, rfl⟩ := ownsRow_succ hown1
  have S1 := Lib.hid (H1.out.set 1 (.slice (some ⟨g1, 0, none⟩) (0 + 1) p1))
  clear hown1 hgrow1 c1 hl0 H0
  go_upto_region 8 with fail
  generalize w1.setCell ⟨w.heap.size, 1, none⟩ (.slice (some ⟨g1, 0, none⟩) (0 + 1) p1) = X1 at S1 ⊢
  have c2 : X1.cell? ⟨w.heap.size, 2, none⟩ = some (.slice none 0 0) := S1.out.f 2 (by omega)
  have hl1 := S1.out.lt
  clear d1 z1
  go_wp2_with (at_builtin; refine wpList_append_own_at _ rfl _ _ 22 rfl (w.heap.size) 3 i3 (.int .i64 0) 1 8 Try.underlying22 hi hz0 hz1 hz2 rfl (by decide) _ _ _ rfl (World.ownsRow_nil _ _ _ _) ⟨X1.heap.size, 0, none⟩ 1 1 [.int .i64 (-1)] rfl rfl (cell_one_new _ _ _) ?c2 ?c3 ?c4 ?c5 ?_)
  case c2 => simp [Value.oneCell']
  case c3 => simp [maxLen]
  case c4 => omega
  case c5 => simp; omega

  intro v2 w2 hown2 hgrow2 _ _
  have H2 := Lib.hid (S1.out.kept (((Kept.refl _).alloc _).trans (grown_none hgrow2)))
  have d2 : w2.cell? ⟨w.heap.size, 2, none⟩ = some (.slice none 0 0) := H2.out.f 2 (by omega)
  have z2 := H2.out.fz 2
  obtain ⟨g2, p2, rfl⟩ := ownsRow_succ hown2
  have S2 := Lib.hid (H2.out.set 2 (.slice (some ⟨g2, 0, none⟩) (0 + 1) p2))
  clear hown2 hgrow2 c2 hl1
  go_upto_region 9 with fail
  generalize w2.setCell ⟨w.heap.size, 2, none⟩ (.slice (some ⟨g2, 0, none⟩) (0 + 1) p2) = X2 at S2 ⊢
  have c3 : X2.cell? ⟨w.heap.size, 3, none⟩ = some (.slice none 0 0) := S2.out.f 3 (by omega)
  have hl2 := S2.out.lt
  clear d2 z2
  go_wp2_with (at_builtin; refine wpList_append_own_at _ rfl _ _ 22 rfl (w.heap.size) 3 i3 (.int .i64 0) 1 8 Try.underlying22 hi hz0 hz1 hz2 rfl (by decide) _ _ _ rfl (World.ownsRow_nil _ _ _ _) ⟨X2.heap.size, 0, none⟩ 1 1 [.int .i64 (-1)] rfl rfl (cell_one_new _ _ _) ?d2 ?d3 ?d4 ?d5 ?_)
  case d2 => simp [Value.oneCell']
  case d3 => simp [maxLen]
  case d4 => omega
  case d5 => simp; omega

  intro v3 w3 hown3 hgrow3 _ _
  have H3 := Lib.hid (S2.out.kept (((Kept.refl _).alloc _).trans (grown_none hgrow3)))
  have d3 : w3.cell? ⟨w.heap.size, 3, none⟩ = some (.slice none 0 0) := H3.out.f 3 (by omega)
  have z3 := H3.out.fz 3
  obtain ⟨g3, p3, rfl⟩ := ownsRow_succ hown3
  have S3 := Lib.hid (H3.out.set 3 (.slice (some ⟨g3, 0, none⟩) (0 + 1) p3))
  clear hown3 hgrow3 c3 hl2
  go_wp2_with fail
  rw [rounds_succ]
  go_wp2_with fail
  go_ret2
  exact ⟨_, rfl, S3.out.k⟩
end Go.Proofs.Ytcjadneamacilaa.C

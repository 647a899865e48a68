/- snap.some: is there such a place? -/
import Derived.Test.YtcjadneamacilaaA
namespace Go.Proofs.Ytcjadneamacilaa.C
open Go.RowKit Go.Shelf
attribute [local go_sem] Oper.semAt_some

theorem cell_new_l (W : World) (v : Value) (t : TypeId) : (W.alloc (.cells #[v] t)).cell? ⟨W.heap.size, 0, none⟩ = some v ∧ (W.alloc (.cells #[v] t)).frozen? ⟨W.heap.size, 0, none⟩ = false := by
  refine ⟨by simp, ?_⟩
  rw [frozen?_alloc_cells]; simp [World.frozen?]
theorem cell_alloc_l {W : World} {a : Addr} {v : Value} (o : Obj) (h : W.cell? a = some v) : (W.alloc o).cell? a = some v := cell_kept h (World.grownBy_alloc W o none) (fun r e => by cases e)
theorem frozen_alloc_l {W : World} {a : Addr} {v : Value} (o : Obj) (h : W.cell? a = some v) (hf : W.frozen? a = false) : (W.alloc o).frozen? a = false := (frozen_kept h (World.grownBy_alloc W o none) (fun r e => by cases e)).trans hf

theorem apart_stops (F : Fence) (n : Nat) (h84 : F.fn 84) (hro : F.round = none) (hn : 1 ≤ n) (w0 w : World) (B1 B2 : Nat) (aa ab : Option Addr) (na nb ca cb : Nat) (z y : Nat → Int)
    (hA : RowI .u64 w0 aa na z) (hB : RowI .u64 w0 ab nb y) (hk : Kept w0 w) (hb1 : w.cell? ⟨B1, 0, none⟩ = some (.slice aa na ca)) (hb2 : w.cell? ⟨B2, 0, none⟩ = some (.slice ab nb cb)) :
    SeqStopsK F n Try.prog 84 #[.pointer (some ⟨B1, 0, none⟩), .pointer (some ⟨B2, 0, none⟩)] (fun x : Int => #[Value.int .i64 x]) (KpA w0.heap.size B1 B2) (fun ys => ys = dif z y nb na) (fun pre => pre <+: dif z y nb na) na w :=
  fun l J Jx W hW _ _ hY h0 => apart1_in F n h84 hro hn l B1 B2 w0 aa ab na nb ca cb z y hA hB J Jx hY W (hk.trans hW) (Kept.cell hW hb1) (Kept.cell hW hb2) h0

set_option maxRecDepth 100000 in
set_option maxHeartbeats 2000000 in
theorem some_c (w : World) (aa ab : Option Addr) (na nb ca cb : Nat) (z y : Nat → Int) (hA : RowI .u64 w aa na z) (hB : RowI .u64 w ab nb y) :
    Calls Try.prog 66 #[.slice aa na ca, .slice ab nb cb] w fun e w' => e = .returned (.bool (!(dif z y nb na).isEmpty)) ∧ Kept w w' := by
  refine (callsIn_wide (n := 3)).1 ?_
  refine callsIn_of_wp_marks Try.func66 rfl trivial ?_ rfl
  simp only [Try.ntmps66, List.size_toArray, List.length_cons, List.length_nil, Nat.reduceAdd, Nat.reduceSub, Array.replicate_succ, Array.replicate_zero, List.push_toArray, List.append_toArray, List.nil_append, List.cons_append]
  gi_wp2_with (refine ⟨trivial, ?_⟩; gi_at_call 68; refine (apart_in Fence.wide 2 trivial rfl _ _ _ _ _ _ _).mono ?_; rintro e w' ⟨rfl, rfl⟩)
  have c0 := cell_new_l w (.bool false) 4
  have c1 := cell_new_l (w.alloc (.cells #[.bool false] 4)) (.slice aa na ca) 23
  have c2 := cell_new_l ((w.alloc (.cells #[.bool false] 4)).alloc (.cells #[.slice aa na ca] 23)) (.slice ab nb cb) 23
  simp only [World.size_alloc] at c1 c2
  have hB0 : Below w.heap.size w (((w.alloc (.cells #[.bool false] 4)).alloc (.cells #[.slice aa na ca] 23)).alloc (.cells #[.slice ab nb cb] 23)) := (((Below.refl _ w).alloc (Nat.le_refl _) _).alloc (by simp) _).alloc (by simp; omega) _
  refine wpIn_rangeFunc_ownF rfl (by omega) (gf := 84) (lb := #[.pointer (some ⟨w.heap.size + 1, 0, none⟩), .pointer (some ⟨w.heap.size + 1 + 1, 0, none⟩)]) rfl trivial (enters_of Try.func84 (by kernel_rfl) rfl)
    (apart_stops Fence.wide 2 trivial rfl (by omega) w _ (w.heap.size + 1) (w.heap.size + 1 + 1) aa ab na nb ca cb z y hA hB hB0 (cell_alloc_l _ c1.1) c2.1) kpA_t (kpA_b (by simp; omega) (by simp) (by simp)) (Below.refl _ _) (fun _ => rfl)
    (fun pre W => (pre = [] ∧ W.cell? ⟨w.heap.size, 0, none⟩ = some (.bool false) ∧ W.frozen? ⟨w.heap.size, 0, none⟩ = false) ∧ Below w.heap.size w W)
    (fun c pre W => (c = .ret ∧ pre ≠ [] ∧ W.cell? ⟨w.heap.size, 0, none⟩ = some (.bool true)) ∧ Below w.heap.size w W)
    (OwnFrom.and (Own.from (fun s A B row hs hg hr => ⟨hs.1, cell_kept hs.2.1 hg hr, (frozen_kept hs.2.1 hg hr).trans hs.2.2⟩) _) (ownFrom_below (Nat.le_refl _) (by simp; omega)))
    (fun c => OwnFrom.and (Own.from (fun s A B row hs hg hr => ⟨hs.1, hs.2.1, cell_kept hs.2.2 hg hr⟩) _) (ownFrom_below (Nat.le_refl _) (by simp; omega)))
    ⟨⟨rfl, cell_alloc_l _ (cell_alloc_l _ c0.1), frozen_alloc_l _ (cell_alloc_l _ c0.1) (frozen_alloc_l _ c0.1 c0.2)⟩, hB0⟩
    (fun x => { tmps := #[.slice aa na ca, .slice ab nb cb, undef, undef, .pointer (some ⟨w.heap.size, 0, none⟩), .slice aa na ca, .slice ab nb cb, .func (.func 84) #[] #[.pointer (some ⟨w.heap.size + 1, 0, none⟩), .pointer (some ⟨w.heap.size + 1 + 1, 0, none⟩)], .int .i64 x], defers := [] }) ?assign ?body ?done ?stop
  case assign =>
    intro l x W K hK
    have hz : Array.foldl (fun (t : Array Value) (x : Nat × Value) => t.setIfInBounds x.1 x.2) #[Value.slice aa na ca, Value.slice ab nb cb, undef, undef, Value.pointer (some { block := w.heap.size, off := 0 }), Value.slice aa na ca, Value.slice ab nb cb, Value.func (Fn.func 84) #[] #[Value.pointer (some { block := w.heap.size + 1, off := 0 }), Value.pointer (some { block := w.heap.size + 1 + 1, off := 0 })], undef] (#[8].zip #[Value.int .i64 x]) = #[Value.slice aa na ca, Value.slice ab nb cb, undef, undef, Value.pointer (some { block := w.heap.size, off := 0 }), Value.slice aa na ca, Value.slice ab nb cb, Value.func (Fn.func 84) #[] #[Value.pointer (some { block := w.heap.size + 1, off := 0 }), Value.pointer (some { block := w.heap.size + 1 + 1, off := 0 })], Value.int .i64 x] := by simp [Array.setIfInBounds]
    gi_wp2
    simpa [hz] using hK
  case body =>
    rintro l pre x W ⟨⟨rfl, hc, hf⟩, hB⟩ _
    gi_wp2
    exact ⟨KeepsOthers.setCell _ _ _, ⟨rfl, by simp, World.cell?_setCell_same' _ _ _ (by rw [hc]; rfl)⟩, hB.setCell (p := ⟨w.heap.size, 0, none⟩) (by simp) _⟩
  case done =>
    rintro D ys W hD rfl ⟨⟨hne, hcr, hfr⟩, hB⟩ hK
    gi_wp2
    have hK' := (KeepsOthers.setCell W ⟨w.heap.size, 0, none⟩ (.bool false)).same D _ hK rfl
    refine ⟨by simp, .inl ⟨_, _, rfl, run_takeDeferred hK', ?_⟩⟩
    have hc5 := cell_kept (World.cell?_setCell_same' W ⟨w.heap.size, 0, none⟩ (.bool false) (by rw [hcr]; rfl)) (grownBy_putObj' _ D (.deferred none)) (fun r e => by cases e; exact ⟨_, hK', rfl⟩)
    refine ⟨.bool false, ?_, by rw [hne]; rfl, (hB.setCell (p := ⟨w.heap.size, 0, none⟩) (by simp) _).trans (belowK_b (w := w) (Nat.le_refl _) _ D _ _ (by simp at hD; omega) hK' rfl rfl)⟩
    simp [results, Try.f66, go_sem, hc5]
  case stop =>
    rintro D c pre W hD hpre ⟨⟨rfl, hin, hcr⟩, hB⟩ hK
    gi_wp2
    refine ⟨by simp, .inl ⟨_, _, rfl, run_takeDeferred hK, ?_⟩⟩
    have hc5 := cell_kept hcr (grownBy_putObj' _ D (.deferred none)) (fun r e => by cases e; exact ⟨_, hK, rfl⟩)
    refine ⟨.bool true, ?_, by rw [show (dif z y nb na).isEmpty = false from by cases hd : dif z y nb na with | nil => exact absurd (by have := hpre.length_le; rw [hd] at this; exact List.eq_nil_of_length_eq_zero (by simpa using this)) hin | cons _ _ => rfl]; rfl, hB.trans (belowK_b (w := w) (Nat.le_refl _) W D _ _ (by simp at hD; omega) hK rfl rfl)⟩
    simp [results, Try.f66, go_sem, hc5]
end Go.Proofs.Ytcjadneamacilaa.C

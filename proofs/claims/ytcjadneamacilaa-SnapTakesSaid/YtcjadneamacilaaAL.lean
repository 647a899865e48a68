/- The reference's makers. -/
import Derived.Test.YtcjadneamacilaaAK
import Derived.Test.YtcjadneamacilaaH
namespace Go.Proofs.Ytcjadneamacilaa.C
open Go.RowKit

set_option maxRecDepth 100000 in
set_option maxHeartbeats 1000000 in
theorem rlive_c (w : World) : Calls Try.prog 44 #[] w fun e w' => ∃ b, e = .returned (.pointer (some ⟨b, 0, none⟩)) ∧ Kept w w' := by
  have infoE : (Try.prog.info? 180).map (fun i => (i.zero, i.size, i.bytes)) = some (some (.agg #[.bool false, .int .i64 0, .bool false, .int .i64 0]), 4, 32) := by kernel_rfl
  obtain ⟨i0, hi, hz0, hz1, hz2⟩ := info_parts infoE
  clear infoE
  go_enter Try.func44, Try.ntmps44
  go_wp2
  go_loopw [2] (fun i wr => ∃ (j : Nat) (v : Value) (xs : List Value), j ≤ 64 ∧ i = .int .i64 j ∧ Hid (wr.cell? ⟨w.heap.size, 0, none⟩ = some v ∧ wr.frozen? ⟨w.heap.size, 0, none⟩ = false ∧ wr.ownsRow (w.heap.size + 1) 180 4 v j xs ∧ Kept w wr ∧ w.heap.size < wr.heap.size)) (fun i _ => 64 - (intOf i).toNat)
  case atStart => exact ⟨0, .slice none 0 0, [], by omega, rfl, by simp, by rw [frozen?_alloc_cells]; simp [World.frozen?], World.ownsRow_nil _ _ _ _, (Kept.refl _).alloc _, by simp⟩
  case round =>
    obtain ⟨j, v, xs, hj, rfl, hown⟩ := hrel
    obtain ⟨hc, hf, -, -, hsz⟩ := hown.out
    by_cases hlt : j < 64
    · go_wp2_with (at_builtin; refine wpList_append_own_at _ rfl _ _ 176 rfl (w.heap.size + 1) 180 i0 (.agg #[.bool false, .int .i64 0, .bool false, .int .i64 0]) 4 32 Try.underlying176 hi hz0 hz1 hz2 rfl (by decide) _ _ _ rfl (hown.out.2.2.1.alloc _) ⟨wr.heap.size, 0, none⟩ 1 1 [.bool false, .int .i64 0, .bool false, .int .i64 0] rfl rfl (cells_new _ _ _) ?c2 ?c3 ?c4 ?c5 ?_)
      case c2 => simp [Value.oneCell']
      case c3 => simp [maxLen]; omega
      case c4 => omega
      case c5 => simp; omega
      intro v' w1 hown' hgrow _ hloc
      have hob : ∀ k, v.ownBlock = some k → w.heap.size + 1 ≤ k := fun k hk => (hown.out.2.2.1.lt k hk).1
      have hne : some w.heap.size ≠ v.ownBlock := fun e => by have := hob _ e.symm; omega
      have hk1 : Kept w w1 := Below.grown (hown.out.2.2.2.1.alloc _) hgrow (by simp; omega) (fun k hk => by have := hob k hk; omega)
      have hc1 := hgrow.cell (a := ⟨w.heap.size, 0, none⟩) ((World.cell?_alloc_lt _ _ _ hsz).trans hc) hne
      have hf1 : w1.frozen? ⟨w.heap.size, 0, none⟩ = false := by
        rw [World.frozen?_of_block (a := ⟨w.heap.size, 0, none⟩) (hgrow.block w.heap.size (by simp; omega) hne), frozen?_alloc_cells]; exact hf
      have hsz1 : w.heap.size < w1.heap.size := by have := hgrow.size; simp at this; omega
      have HO := Lib.hid hown'
      have HK := Lib.hid hk1
      obtain ⟨g, cp, rfl⟩ := ownsRow_succ hown'
      clear hown' hgrow hob hne hk1 hc hf hsz hloc
      go_wp2_with fail
      go_roundw
      case rel => exact ⟨j + 1, _, _, by omega, by go_num, World.cell?_setCell_same _ _ _ hc1, by rw [World.frozen?_setCell]; exact hf1, ownsRow_setCell_below HO.out (by simp) _, HK.out.setCell (by simp) _, by simpa [World.setCell] using hsz1⟩
      case measure => simp [intOf]; omega
    · have hK := Lib.hid hown.out.2.2.2.1
      clear hown hc hf hsz
      go_wp2_with fail
      go_ret
      exact ⟨_, rfl, hK.out⟩

set_option maxRecDepth 100000 in
set_option maxHeartbeats 1000000 in
theorem rhw_c (w : World) : Calls Try.prog 45 #[] w fun e w' => ∃ b, e = .returned (.pointer (some ⟨b, 0, none⟩)) ∧ Kept w w' := by
  have infoE : (Try.prog.info? 3).map (fun i => (i.zero, i.size, i.bytes)) = some (some (.int .i64 0), 1, 8) := by kernel_rfl
  obtain ⟨i0, hi, hz0, hz1, hz2⟩ := info_parts infoE
  clear infoE
  go_enter Try.func45, Try.ntmps45
  go_wp2
  go_loopw [2] (fun i wr => ∃ (j : Nat) (v : Value) (xs : List Value), j ≤ 8 ∧ i = .int .i64 j ∧ Hid (wr.cell? ⟨w.heap.size, 0, none⟩ = some v ∧ wr.frozen? ⟨w.heap.size, 0, none⟩ = false ∧ wr.ownsRow (w.heap.size + 1) 3 1 v j xs ∧ Kept w wr ∧ w.heap.size < wr.heap.size)) (fun i _ => 8 - (intOf i).toNat)
  case atStart => exact ⟨0, .slice none 0 0, [], by omega, rfl, by simp, by rw [frozen?_alloc_cells]; simp [World.frozen?], World.ownsRow_nil _ _ _ _, (Kept.refl _).alloc _, by simp⟩
  case round =>
    obtain ⟨j, v, xs, hj, rfl, hown⟩ := hrel
    obtain ⟨hc, hf, -, -, hsz⟩ := hown.out
    by_cases hlt : j < 8
    · go_wp2_with (at_builtin; refine wpList_append_own_at _ rfl _ _ 22 rfl (w.heap.size + 1) 3 i0 (.int .i64 0) 1 8 Try.underlying22 hi hz0 hz1 hz2 rfl (by decide) _ _ _ rfl (hown.out.2.2.1.alloc _) ⟨wr.heap.size, 0, none⟩ 1 1 [.int .i64 0] rfl rfl (cell_one_new _ _ _) ?c2 ?c3 ?c4 ?c5 ?_)
      case c2 => simp [Value.oneCell']
      case c3 => simp [maxLen]; omega
      case c4 => omega
      case c5 => simp; omega
      intro v' w1 hown' hgrow _ hloc
      have hob : ∀ k, v.ownBlock = some k → w.heap.size + 1 ≤ k := fun k hk => (hown.out.2.2.1.lt k hk).1
      have hne : some w.heap.size ≠ v.ownBlock := fun e => by have := hob _ e.symm; omega
      have hk1 : Kept w w1 := Below.grown (hown.out.2.2.2.1.alloc _) hgrow (by simp; omega) (fun k hk => by have := hob k hk; omega)
      have hc1 := hgrow.cell (a := ⟨w.heap.size, 0, none⟩) ((World.cell?_alloc_lt _ _ _ hsz).trans hc) hne
      have hf1 : w1.frozen? ⟨w.heap.size, 0, none⟩ = false := by
        rw [World.frozen?_of_block (a := ⟨w.heap.size, 0, none⟩) (hgrow.block w.heap.size (by simp; omega) hne), frozen?_alloc_cells]; exact hf
      have hsz1 : w.heap.size < w1.heap.size := by have := hgrow.size; simp at this; omega
      have HO := Lib.hid hown'
      have HK := Lib.hid hk1
      obtain ⟨g, cp, rfl⟩ := ownsRow_succ hown'
      clear hown' hgrow hob hne hk1 hc hf hsz hloc
      go_wp2_with fail
      go_roundw
      case rel => exact ⟨j + 1, _, _, by omega, by go_num, World.cell?_setCell_same _ _ _ hc1, by rw [World.frozen?_setCell]; exact hf1, ownsRow_setCell_below HO.out (by simp) _, HK.out.setCell (by simp) _, by simpa [World.setCell] using hsz1⟩
      case measure => simp [intOf]; omega
    · have hK := Lib.hid hown.out.2.2.2.1
      clear hown hc hf hsz
      go_wp2_with fail
      go_ret
      exact ⟨_, rfl, hK.out⟩

set_option maxRecDepth 100000 in
set_option maxHeartbeats 1000000 in
theorem rregs_c (w : World) : Calls Try.prog 50 #[] w fun e w' => ∃ b, e = .returned (.pointer (some ⟨b, 0, none⟩)) ∧ Kept w w' := by
  have infoE : (Try.prog.info? 37).map (fun i => (i.zero, i.size, i.bytes)) = some (some (.int .u64 0), 1, 8) := by kernel_rfl
  obtain ⟨i0, hi, hz0, hz1, hz2⟩ := info_parts infoE
  clear infoE
  go_enter Try.func50, Try.ntmps50
  go_wp2
  go_loopw [2] (fun i wr => ∃ (j : Nat) (v : Value) (xs : List Value), j ≤ 8 ∧ i = .int .i64 j ∧ Hid (wr.cell? ⟨w.heap.size, 0, none⟩ = some v ∧ wr.frozen? ⟨w.heap.size, 0, none⟩ = false ∧ wr.ownsRow (w.heap.size + 1) 37 1 v j xs ∧ Kept w wr ∧ w.heap.size < wr.heap.size)) (fun i _ => 8 - (intOf i).toNat)
  case atStart => exact ⟨0, .slice none 0 0, [], by omega, rfl, by simp, by rw [frozen?_alloc_cells]; simp [World.frozen?], World.ownsRow_nil _ _ _ _, (Kept.refl _).alloc _, by simp⟩
  case round =>
    obtain ⟨j, v, xs, hj, rfl, hown⟩ := hrel
    obtain ⟨hc, hf, -, -, hsz⟩ := hown.out
    by_cases hlt : j < 8
    · go_wp2_with (at_builtin; refine wpList_append_own_at _ rfl _ _ 23 rfl (w.heap.size + 1) 37 i0 (.int .u64 0) 1 8 Try.underlying23 hi hz0 hz1 hz2 rfl (by decide) _ _ _ rfl (hown.out.2.2.1.alloc _) ⟨wr.heap.size, 0, none⟩ 1 1 [.int .u64 0] rfl rfl (cell_one_new _ _ _) ?c2 ?c3 ?c4 ?c5 ?_)
      case c2 => simp [Value.oneCell']
      case c3 => simp [maxLen]; omega
      case c4 => omega
      case c5 => simp; omega
      intro v' w1 hown' hgrow _ hloc
      have hob : ∀ k, v.ownBlock = some k → w.heap.size + 1 ≤ k := fun k hk => (hown.out.2.2.1.lt k hk).1
      have hne : some w.heap.size ≠ v.ownBlock := fun e => by have := hob _ e.symm; omega
      have hk1 : Kept w w1 := Below.grown (hown.out.2.2.2.1.alloc _) hgrow (by simp; omega) (fun k hk => by have := hob k hk; omega)
      have hc1 := hgrow.cell (a := ⟨w.heap.size, 0, none⟩) ((World.cell?_alloc_lt _ _ _ hsz).trans hc) hne
      have hf1 : w1.frozen? ⟨w.heap.size, 0, none⟩ = false := by
        rw [World.frozen?_of_block (a := ⟨w.heap.size, 0, none⟩) (hgrow.block w.heap.size (by simp; omega) hne), frozen?_alloc_cells]; exact hf
      have hsz1 : w.heap.size < w1.heap.size := by have := hgrow.size; simp at this; omega
      have HO := Lib.hid hown'
      have HK := Lib.hid hk1
      obtain ⟨g, cp, rfl⟩ := ownsRow_succ hown'
      clear hown' hgrow hob hne hk1 hc hf hsz hloc
      go_wp2_with fail
      go_roundw
      case rel => exact ⟨j + 1, _, _, by omega, by go_num, World.cell?_setCell_same _ _ _ hc1, by rw [World.frozen?_setCell]; exact hf1, ownsRow_setCell_below HO.out (by simp) _, HK.out.setCell (by simp) _, by simpa [World.setCell] using hsz1⟩
      case measure => simp [intOf]; omega
    · have hK := Lib.hid hown.out.2.2.2.1
      clear hown hc hf hsz
      go_wp2_with fail
      go_ret
      exact ⟨_, rfl, hK.out⟩

set_option maxRecDepth 100000 in
set_option maxHeartbeats 1000000 in
theorem rtlb_c (w : World) : Calls Try.prog 49 #[.int .i64 0] w fun e w' => ∃ b, e = .returned (.tuple #[.pointer (some ⟨b, 0, none⟩), .int .i64 0]) ∧ Kept w w' := by
  go_enter Try.func49, Try.ntmps49
  go_wp2
  go_ret2
  exact ⟨_, rfl, (Kept.refl _).alloc _⟩
set_option maxRecDepth 100000 in
set_option maxHeartbeats 1000000 in
theorem rcheck_c (w : World) : Calls Try.prog 43 #[.agg #[.int .i64 8, .int .i64 1, .int .i64 0, .int .i64 0]] w fun e w' => e = .returned (.int .i64 0) ∧ Kept w w' := by
  go_enter Try.func43, Try.ntmps43
  go_wp2
  go_ret
  exact ⟨rfl, (Kept.refl _).alloc _⟩

theorem ext_map2 (G Q : Nat → Nat) (j x y : Nat) : (List.range j).map (fun i => Value.slice (some ⟨ext G j x i, 0, none⟩) 36 (ext Q j y i)) = (List.range j).map fun i => Value.slice (some ⟨G i, 0, none⟩) 36 (Q i) := by
  apply List.map_congr_left
  intro i hi
  have : i ≠ j := by have := List.mem_range.1 hi; omega
  simp [ext, this]
/-- While the reference's frames are made. -/
structure Ro (w wr : World) (j : Nat) (v : Value) (G Q : Nat → Nat) : Prop where
  k : Kept w wr
  hd : wr.cell? ⟨w.heap.size, 0, none⟩ = some v
  fz0 : wr.frozen? ⟨w.heap.size, 0, none⟩ = false
  own : wr.ownsRow (w.heap.size + 1) 23 1 v j ((List.range j).map fun i => .slice (some ⟨G i, 0, none⟩) 36 (Q i))
  c : ∀ i k : Nat, i < j → k < 36 → wr.cell? ⟨G i, k, none⟩ = some (.int .u64 0)
  fz : ∀ i o : Nat, i < j → wr.frozen? ⟨G i, o, none⟩ = false
  inj : ∀ a b : Nat, a < j → b < j → G a = G b → a = b
  ne : ∀ i : Nat, i < j → w.heap.size < G i ∧ v.ownBlock ≠ some (G i)
theorem own_fz {w : World} {base : Nat} {e : TypeId} {size b n cap : Nat} {xs : List Value} (h : w.ownsRow base e size (.slice (some ⟨b, 0, none⟩) n cap) n xs) (o : Nat) : w.frozen? ⟨b, o, none⟩ = false := by
  obtain ⟨-, h | ⟨g, cp, cur, e', _, h1, _⟩⟩ := h
  · cases h.1
  · injection e' with e1 e2 e3
    injection e1 with e1; injection e1 with e1
    subst e1
    simp [World.frozen?, h1]
theorem Ro.push {w wr W2 W4 : World} {j b c : Nat} {v v' : Value} {G Q : Nat → Nat} (h : Ro w wr j v G Q) (hk : Kept wr W2)
    (ho : W2.ownsRow wr.heap.size 37 1 (.slice (some ⟨b, 0, none⟩) 36 c) 36 (List.replicate 36 (.int .u64 0)))
    (hown : W4.ownsRow (w.heap.size + 1) 23 1 v' (j + 1) ((List.range j).map (fun i => Value.slice (some ⟨G i, 0, none⟩) 36 (Q i)) ++ [.slice (some ⟨b, 0, none⟩) 36 c]))
    (hg : (W2.alloc (.cells #[.slice (some ⟨b, 0, none⟩) 36 c] 23)).grownBy W4 v.ownBlock)
    (hloc : v'.ownBlock = v.ownBlock ∨ v'.ownBlock = some (W2.alloc (.cells #[.slice (some ⟨b, 0, none⟩) 36 c] 23)).heap.size) :
    Ro w (W4.setCell ⟨w.heap.size, 0, none⟩ v') (j + 1) v' (ext G j b) (ext Q j c) := by
  have hsz : w.heap.size < wr.heap.size := World.block_lt_of_cell? wr _ h.hd
  obtain ⟨hb1, hb2⟩ := ho.lt b rfl
  have hob : ∀ k, v.ownBlock = some k → w.heap.size + 1 ≤ k ∧ k < wr.heap.size := fun k hk => h.own.lt k hk
  have hks := hk.size
  have hne0 : some w.heap.size ≠ v.ownBlock := fun e => by have := (hob _ e.symm).1; omega
  have hneb : some b ≠ v.ownBlock := fun e => by have := (hob _ e.symm).2; omega
  have K3 : Kept wr (W2.alloc (.cells #[.slice (some ⟨b, 0, none⟩) 36 c] 23)) := hk.alloc _
  have hs4 : W2.heap.size < W4.heap.size := by have := hg.size; simp at this; omega
  have hc0 := hg.cell (a := ⟨w.heap.size, 0, none⟩) (K3.cell h.hd) hne0
  have hf0 : W4.frozen? ⟨w.heap.size, 0, none⟩ = false := by
    rw [World.frozen?_of_block (a := ⟨w.heap.size, 0, none⟩) (hg.block w.heap.size (by simp; omega) hne0), frozen?_alloc_cells]
    exact (hk.frozen (p := ⟨w.heap.size, 0, none⟩) hsz).trans h.fz0
  have hGlt : ∀ i, i < j → G i < wr.heap.size := fun i hi => World.block_lt_of_cell? wr _ (h.c i 0 hi (by omega))
  have hcell : ∀ i k : Nat, i < j + 1 → k < 36 → W4.cell? ⟨ext G j b i, k, none⟩ = some (.int .u64 0) := by
    intro i k hi hk36
    by_cases e : i = j
    · subst e
      rw [ext_at]
      refine hg.cell (a := ⟨b, k, none⟩) ?_ hneb
      rw [World.cell?_alloc_lt _ _ _ hb2, ho.cellAt k (by omega), List.getElem?_replicate, if_pos hk36]
    · rw [ext_lt _ _ _ _ (by omega)]
      exact hg.cell (a := ⟨G i, k, none⟩) (K3.cell (h.c i k (by omega) hk36)) (fun e' => (h.ne i (by omega)).2 e'.symm)
  have hfz : ∀ i o : Nat, i < j + 1 → W4.frozen? ⟨ext G j b i, o, none⟩ = false := by
    intro i o hi
    by_cases e : i = j
    · subst e
      rw [ext_at, World.frozen?_of_block (a := ⟨b, o, none⟩) (hg.block b (by simp; omega) hneb), frozen?_alloc_cells]
      exact own_fz ho o
    · rw [ext_lt _ _ _ _ (by omega), World.frozen?_of_block (a := ⟨G i, o, none⟩) (hg.block (G i) (by have := hGlt i (by omega); simp; omega) (fun e' => (h.ne i (by omega)).2 e'.symm)), frozen?_alloc_cells]
      exact (hk.frozen (p := ⟨G i, o, none⟩) (hGlt i (by omega))).trans (h.fz i o (by omega))
  have hgt : ∀ i, i < j + 1 → w.heap.size < ext G j b i := by
    intro i hi
    by_cases e : i = j
    · subst e; rw [ext_at]; omega
    · rw [ext_lt _ _ _ _ (by omega)]; exact (h.ne i (by omega)).1
  refine ⟨?_, World.cell?_setCell_same _ _ _ hc0, by rw [World.frozen?_setCell]; exact hf0, ?_, ?_, ?_, ?_, ?_⟩
  · exact (Below.grown (h.k.trans K3) hg (h.k.trans K3).size (fun k hk => by have := (hob k hk).1; omega)).setCell (by simp) _
  · rw [range_snoc, ext_map2, ext_at, ext_at]
    exact ownsRow_setCell_below hown (by simp) _
  · intro i k hi hk36
    rw [World.cell?_setCell_other _ _ _ _ (addr_ne (.inl (by have := hgt i hi; omega)))]
    exact hcell i k hi hk36
  · intro i o hi; rw [World.frozen?_setCell]; exact hfz i o hi
  · intro a d ha hd e
    by_cases ea : a = j
    · by_cases ed : d = j
      · omega
      · subst ea
        rw [ext_at, ext_lt _ _ _ _ (by omega)] at e
        have := hGlt d (by omega); omega
    · by_cases ed : d = j
      · subst ed
        rw [ext_at, ext_lt _ _ _ _ (by omega)] at e
        have := hGlt a (by omega); omega
      · rw [ext_lt _ _ _ _ (by omega), ext_lt _ _ _ _ (by omega)] at e
        exact h.inj a d (by omega) (by omega) e
  · intro i hi
    refine ⟨hgt i hi, fun e' => ?_⟩
    by_cases e : i = j
    · subst e
      rw [ext_at] at e'
      rcases hloc with hl | hl
      · exact hneb (by rw [← hl, e'])
      · rw [hl] at e'; injection e' with e'; simp at e'; omega
    · rw [ext_lt _ _ _ _ (by omega)] at e'
      rcases hloc with hl | hl
      · exact (h.ne i (by omega)).2 (by rw [← hl, e'])
      · rw [hl] at e'; injection e' with e'; have := hGlt i (by omega); simp at e'; omega
theorem Ro.fin {w wr : World} {n : Nat} {v : Value} {G Q : Nat → Nat} (h : Ro w wr n v G Q) (hp : 0 < n) (hn : n ≤ 64) :
    ∃ rf cap, Rm wr w.heap.size rf n cap G Q zeroZ ∧ w.heap.size ≤ rf ∧ (∀ i, i < n → w.heap.size ≤ G i) ∧ Kept w wr := by
  obtain ⟨g, cap, hv⟩ := ownsRow_succ (k := n - 1) (by rw [show n - 1 + 1 = n from by omega]; exact h.own)
  rw [show n - 1 + 1 = n from by omega] at hv
  have hd := h.hd
  have ho := h.own
  have hne := h.ne
  rw [hv] at hd ho hne
  obtain ⟨hg1, hg2⟩ := ho.lt g rfl
  refine ⟨g, cap, ⟨hp, hn, hd, fun i hi => ?_, h.c, fun i k _ _ => by show (Lit.int .u64 0).wf = true; decide, h.fz, h.inj, fun i hi => ⟨by have := (hne i hi).1; omega, fun e => (hne i hi).2 (by rw [e]; rfl)⟩⟩, by omega, fun i hi => by have := (hne i hi).1; omega, h.k⟩
  rw [ho.cellAt i (by omega), List.getElem?_map, List.getElem?_range hi]; rfl

set_option maxRecDepth 100000 in
set_option maxHeartbeats 2000000 in
theorem rmnew_c (w : World) (n : Nat) (hp : 0 < n) (hn : n ≤ 64) : Calls Try.prog 46 #[.int .i64 n] w fun e w' => ∃ rf cap G Q, e = .returned (.tuple #[.pointer (some ⟨w.heap.size, 0, none⟩), .int .i64 0]) ∧ Rm w' w.heap.size rf n cap G Q zeroZ ∧ w.heap.size ≤ rf ∧ (∀ i, i < n → w.heap.size ≤ G i) ∧ Kept w w' := by
  have info2 : (Try.prog.info? 23).map (fun i => (i.zero, i.size, i.bytes)) = some (some (.slice none 0 0), 1, 24) := by kernel_rfl
  obtain ⟨i2, hi2, hz0, hz1, hz2⟩ := info_parts info2
  clear info2
  have infoE : (Try.prog.info? 37).map (fun i => (i.zero, i.size, i.bytes)) = some (some (.int .u64 0), 1, 8) := by kernel_rfl
  obtain ⟨i37, hi, hy0, hy1, hy2⟩ := info_parts infoE
  clear infoE
  have g1 : ¬ (n : Int) < 1 := by omega
  have g2 : ¬ (64 : Int) < n := by omega
  go_enter Try.func46, Try.ntmps46
  go_wp2
  go_loopw [5] (fun i wr => ∃ (j : Nat) (v : Value) (G Q : Nat → Nat), j ≤ n ∧ i = .int .i64 j ∧ Hid (Ro w wr j v G Q)) (fun i _ => n - (intOf i).toNat)
  case atStart => exact ⟨0, .slice none 0 0, fun _ => 0, fun _ => 0, by omega, rfl, ⟨(Kept.refl _).alloc _, by simp, by rw [frozen?_alloc_cells]; simp [World.frozen?], World.ownsRow_nil _ _ _ _, fun i k hi => absurd hi (by omega), fun i o hi => absurd hi (by omega), fun a b ha => absurd ha (by omega), fun i hi => absurd hi (by omega)⟩⟩
  case round =>
    obtain ⟨j, v, G, Q, hj, rfl, hr⟩ := hrel
    generalize wr = wo at hr ⊢
    by_cases hlt : j < n
    · have i1 : (j : Int) < n := by omega
      go_wp2_with fail
      go_loopw [6, 7] (fun x i W => ∃ k : Nat, k ≤ 36 ∧ i = .int .i64 k ∧ Hid (Kept wo W ∧ W.ownsRow wo.heap.size 37 1 x k (List.replicate k (.int .u64 0)))) (fun _ i _ => 36 - (intOf i).toNat)
      case atStart => exact ⟨0, by omega, rfl, Kept.refl _, World.ownsRow_nil _ _ _ _⟩
      case round =>
        obtain ⟨k, hk, rfl, hq⟩ := hrel
        by_cases hlt2 : k < 36
        · have i2' : (k : Int) < 36 := by omega
          go_wp2_with (at_builtin; refine wpList_append_own_at _ rfl _ _ 23 rfl wo.heap.size 37 i37 (.int .u64 0) 1 8 Try.underlying23 hi hy0 hy1 hy2 rfl (by decide) _ _ _ rfl (hq.out.2.alloc _) ⟨_, 0, none⟩ 1 1 [.int .u64 0] rfl rfl (cell_one_new _ _ _) ?c2 ?c3 ?c4 ?c5 ?_)
          case c2 => simp [Value.oneCell']
          case c3 => simp [maxLen]; omega
          case c4 => omega
          case c5 => have := hq.out.1.size; simp; omega
          intro v' w6 hown' hgrow _ _
          have hk6 : Kept wo w6 := Below.grown (hq.out.1.alloc _) hgrow (hq.out.1.alloc _).size (fun j hj => (hq.out.2.lt j hj).1)
          have H6 : Hid (Kept wo w6 ∧ w6.ownsRow wo.heap.size 37 1 v' (k + 1) (List.replicate (k + 1) (.int .u64 0))) := ⟨hk6, by rw [List.replicate_succ']; exact hown'⟩
          clear hown' hgrow hk6
          go_wp2_with fail
          go_roundw
          case rel => exact ⟨k + 1, by omega, by go_num, H6.out⟩
          case measure => simp [intOf]; omega
        · obtain rfl : k = 36 := by omega
          obtain ⟨b, c, rfl⟩ := ownsRow_succ (k := 35) hq.out.2
          have hR2 := Lib.hid (hr.out.own.kept (grownBy_kept hq.out.1 none) (by cases hv : v.ownBlock <;> simp))
          have hd2 := hq.out.1.cell hr.out.hd
          have hf2 := (hq.out.1.frozen (p := ⟨w.heap.size, 0, none⟩) (World.block_lt_of_cell? wo _ hr.out.hd)).trans hr.out.fz0
          go_wp2_with (at_builtin; refine wpList_append_own_at _ rfl _ _ 54 rfl (w.heap.size + 1) 23 i2 (.slice none 0 0) 1 24 Try.underlying54 hi2 hz0 hz1 hz2 rfl (by decide) _ _ _ rfl (hR2.out.alloc _) ⟨_, 0, none⟩ 1 1 [.slice (some ⟨b, 0, none⟩) 36 c] rfl rfl (cell_one_new _ _ _) ?d2 ?d3 ?d4 ?d5 ?_)
          case d2 => simp [Value.oneCell']
          case d3 => simp [maxLen]; omega
          case d4 => omega
          case d5 => have := (hr.out.k.trans hq.out.1).size; have := World.block_lt_of_cell? _ _ hd2; simp at *; omega
          intro v' w6 hown' hgrow _ hloc
          have HP := Lib.hid (hr.out.push hq.out.1 hq.out.2 hown' hgrow (by simpa using hloc))
          obtain ⟨g', cp', rfl⟩ := ownsRow_succ hown'
          have hob : ∀ k, v.ownBlock = some k → w.heap.size + 1 ≤ k := fun k hk => (hr.out.own.lt k hk).1
          have hne0 : some w.heap.size ≠ v.ownBlock := fun e => by have := (hob _ e.symm); omega
          have hs0 := World.block_lt_of_cell? _ _ hd2
          have hc1 := hgrow.cell (a := ⟨w.heap.size, 0, none⟩) ((World.cell?_alloc_lt _ _ _ hs0).trans hd2) hne0
          have hf1 : w6.frozen? ⟨w.heap.size, 0, none⟩ = false := by
            rw [World.frozen?_of_block (a := ⟨w.heap.size, 0, none⟩) (hgrow.block w.heap.size (by simp at hs0 ⊢; omega) hne0), frozen?_alloc_cells]; exact hf2
          clear hown' hgrow hloc hob hne0 hs0 hd2 hf2
          go_wp2_with fail
          go_roundw
          case rel => exact ⟨j + 1, _, _, _, by omega, by go_num, HP.out⟩
          case measure => simp [intOf]; omega
    · obtain rfl : j = n := by omega
      have HF := Lib.hid (hr.out.fin hp hn)
      go_wp2_with fail
      go_ret2
      obtain ⟨rf, cap, h1, h2, h3, h4⟩ := HF.out
      exact ⟨rf, cap, G, Q, rfl, h1, h2, h3, h4⟩
end Go.Proofs.Ytcjadneamacilaa.C

/- The reference's New; awake; what nobody made. -/
import Derived.Test.YthoklnnnnkfhcaaR
namespace Go.Proofs.Ythoklnnnnkfhcaa.C
open Go.RowKit Go.Maps

theorem rl_of {w : World} {tb g cap : Nat} (hc : w.cell? ⟨tb, 0, none⟩ = some (.slice (some ⟨g, 0, none⟩) 8 cap)) (ho : w.ownsRow (tb + 1) 3 1 (.slice (some ⟨g, 0, none⟩) 8 cap) 8 (List.replicate 8 (.int .i64 0))) :
    RL w tb g cap (fun _ => none) := by
  have hl := (ho.lt g rfl).1
  refine ⟨by omega, hc, fun i hi => ?_, fun o => ho.frozenAt o⟩
  rw [ho.cellAt _ (by omega), List.getElem?_replicate, if_pos hi]; rfl

set_option maxHeartbeats 1000000 in
theorem rnew_c (w : World) : Calls Try.prog 12 #[] w fun e w' => ∃ sb cap, e = .returned (.pointer (some ⟨w.heap.size, 0, none⟩)) ∧ RL w' w.heap.size sb cap (fun _ => none) ∧ w.heap.size ≤ sb ∧ Kept w w' := by
  have infoE : (Try.prog.info? 3).map (fun i => (i.zero, i.size, i.bytes)) = some (some (.int .i64 0), 1, 8) := by kernel_rfl
  obtain ⟨i0, hi, hz0, hz1, hz2⟩ := info_parts infoE
  clear infoE
  go_enter Try.func12, Try.ntmps12
  go_wp2
  go_loopw [2] (fun i wr => ∃ (j : Nat) (a : Option Addr) (c : Nat), j ≤ 8 ∧ i = .int .i64 j ∧ Hid (wr.cell? ⟨w.heap.size, 0, none⟩ = some (.slice a j c) ∧ wr.frozen? ⟨w.heap.size, 0, none⟩ = false ∧ wr.ownsRow (w.heap.size + 1) 3 1 (.slice a j c) j (List.replicate j (.int .i64 0)) ∧ Kept w wr ∧ w.heap.size < wr.heap.size)) (fun i _ => 8 - (intOf i).toNat)
  case atStart => exact ⟨0, none, 0, by omega, rfl, by simp, by rw [frozen?_alloc_cells]; simp [World.frozen?], World.ownsRow_nil _ _ _ _, (Kept.refl _).alloc _, by simp⟩
  case round =>
    obtain ⟨j, a, c, hj, rfl, hown⟩ := hrel
    obtain ⟨hc, hf, -, -, hsz⟩ := hown.out
    by_cases hlt : j < 8
    · go_wp2_with (at_builtin; refine wpList_append_own_at _ rfl _ _ 33 rfl (w.heap.size + 1) 3 i0 (.int .i64 0) 1 8 Try.underlying33 hi hz0 hz1 hz2 rfl (by decide) _ _ _ rfl (hown.out.2.2.1.alloc _) ⟨wr.heap.size, 0, none⟩ 1 1 [.int .i64 0] rfl rfl (cell_one_new _ _ _) ?c2 ?c3 ?c4 ?c5 ?_)
      case c2 => simp [Value.oneCell']
      case c3 => simp [maxLen]; omega
      case c4 => omega
      case c5 => simp; omega
      intro v' w1 hown' hgrow _ hloc
      obtain ⟨g, cap, rfl⟩ := ownsRow_succ hown'
      have hob : ∀ k, (Value.slice a j c).ownBlock = some k → w.heap.size + 1 ≤ k := fun k hk => (hown.out.2.2.1.lt k hk).1
      have hne : some w.heap.size ≠ (Value.slice a j c).ownBlock := fun e => by have := hob _ e.symm; omega
      have hk1 : Kept w w1 := Below.grown (hown.out.2.2.2.1.alloc _) hgrow (by simp; omega) (fun k hk => by have := hob k hk; omega)
      have hc1 := hgrow.cell (a := ⟨w.heap.size, 0, none⟩) ((World.cell?_alloc_lt _ _ _ hsz).trans hc) hne
      have hf1 : w1.frozen? ⟨w.heap.size, 0, none⟩ = false := by
        rw [World.frozen?_of_block (a := ⟨w.heap.size, 0, none⟩) (hgrow.block w.heap.size (by simp; omega) hne), frozen?_alloc_cells]; exact hf
      have hsz1 : w.heap.size < w1.heap.size := by have := hgrow.size; simp at this; omega
      rw [show List.replicate j (Value.int .i64 0) ++ [.int .i64 0] = List.replicate (j + 1) (.int .i64 0) from (List.replicate_succ' ..).symm] at hown'
      have HO := Lib.hid hown'
      have HK := Lib.hid hk1
      clear hown' hgrow hob hne hk1 hc hf hsz hloc
      go_wp2_with fail
      go_roundw
      case rel => exact ⟨j + 1, _, _, by omega, by go_num, World.cell?_setCell_same _ _ _ hc1, by rw [World.frozen?_setCell]; exact hf1, ownsRow_setCell_below HO.out (by simp) _, HK.out.setCell (by simp) _, by simpa [World.setCell] using hsz1⟩
      case measure => simp [intOf]; omega
    · obtain rfl : j = 8 := by omega
      clear hc hf hsz
      obtain ⟨hc, hf, ho, hk, hsz⟩ := hown.out
      obtain ⟨g, cap, hg⟩ := ownsRow_succ (k := 7) ho
      injection hg with h1 h2 h3
      subst h1 h3
      have hT := Lib.hid (rl_of hc ho)
      have HK := Lib.hid hk
      have hgb := (ho.lt g rfl).1
      clear hown hc hf ho hk h2
      go_wp2_with fail
      go_ret
      exact ⟨g, c, rfl, hT.out, by omega, HK.out⟩

theorem awake_c (w : World) : Calls Try.prog 17 #[] w fun e w' => e = .returned (.bool true) ∧ Kept w w' := by
  go_enter Try.func17, Try.ntmps17
  go_wp2_with fail
  refine (new_c _).mono ?_
  rintro e w1 ⟨rfl, hT, hk⟩
  have HT := Lib.hid hT
  clear hT
  go_wp2_with fail
  refine (attach_c _ _ _ _ _ _ _ (by omega) HT.out).mono ?_
  rintro e w2 ⟨rfl, hT2, hg⟩
  rw [show atE (fun _ => none) 0 5 = 0 from rfl]
  have HT2 := Lib.hid hT2
  clear hT2
  go_wp2_with fail
  refine (of_c _ _ _ _ _ _ HT2.out).mono ?_
  rintro e w3 ⟨rfl, rfl⟩
  rw [show ofF (atM (fun _ => none) 0 5) 0 = 5 from rfl, show ofE (atM (fun _ => none) 0 5) 0 = 0 from rfl]
  go_wp2_with fail
  go_ret
  exact ⟨rfl, Below.grown hk hg hk.size (fun k hk => by cases hk; exact Nat.le_refl _)⟩
end Go.Proofs.Ythoklnnnnkfhcaa.C

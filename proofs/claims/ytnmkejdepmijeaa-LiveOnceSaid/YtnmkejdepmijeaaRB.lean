/- The reference's New and Take. -/
import Derived.Test.YtnmkejdepmijeaaRA
import Derived.RangeFuncBox
import Derived.Maps.AppendAt
namespace Go.Proofs.Ytnmkejdepmijeaa.C
open Go.RowKit

def zrow : Nat → List Value
  | 0 => []
  | n + 1 => zrow n ++ [.bool false, .int .i64 0, .bool false, .int .i64 0]

theorem zrow_len (n : Nat) : (zrow n).length = n * 4 := by
  induction n with
  | zero => rfl
  | succ n ih => simp [zrow, ih]; omega
theorem zrow_at (n i j : Nat) (hi : i < n) (hj : j < 4) : (zrow n)[i * 4 + j]? = some ([Value.bool false, .int .i64 0, .bool false, .int .i64 0][j]!) := by
  induction n with
  | zero => omega
  | succ n ih =>
    by_cases h : i < n
    · rw [show zrow (n + 1) = zrow n ++ [.bool false, .int .i64 0, .bool false, .int .i64 0] from rfl, List.getElem?_append_left (by rw [zrow_len]; omega)]
      exact ih h
    · obtain rfl : i = n := by omega
      rw [show zrow (i + 1) = zrow i ++ [.bool false, .int .i64 0, .bool false, .int .i64 0] from rfl, List.getElem?_append_right (by rw [zrow_len]; omega), zrow_len]
      rw [show i * 4 + j - i * 4 = j from by omega]
      match j, hj with
      | 0, _ => rfl
      | 1, _ => rfl
      | 2, _ => rfl
      | 3, _ => rfl

theorem cells_new (w : World) (xs : List Value) (t : TypeId) : ∀ j u, xs[j]? = some u → (w.alloc (.cells xs.toArray t)).cell? ((⟨w.heap.size, 0, none⟩ : Addr).add j) = some u := by
  intro j u hj
  have e : ((⟨w.heap.size, 0, none⟩ : Addr).add j) = ⟨w.heap.size, j, none⟩ := by unfold Addr.add; split <;> simp_all
  rw [e, World.cell?_alloc_new]
  simpa using hj

theorem rtab_of {w : World} {tb g cap : Nat} (hc : w.cell? ⟨tb, 0, none⟩ = some (.slice (some ⟨g, 0, none⟩) 64 cap)) (ho : w.ownsRow (tb + 1) 54 4 (.slice (some ⟨g, 0, none⟩) 64 cap) 64 (zrow 64)) :
    RTab w tb g cap zeroL := by
  have hl := (ho.lt g rfl).1
  refine ⟨by omega, hc, fun i hi => ?_, fun i hi => ?_, fun i hi => ?_, fun i hi => ?_, fun o => ho.frozenAt o⟩
  · rw [ho.cellAt _ (by omega)]; exact zrow_at 64 i 0 hi (by omega)
  · rw [ho.cellAt _ (by omega)]; exact zrow_at 64 i 1 hi (by omega)
  · rw [ho.cellAt _ (by omega)]; exact zrow_at 64 i 2 hi (by omega)
  · rw [ho.cellAt _ (by omega)]; exact zrow_at 64 i 3 hi (by omega)

set_option maxHeartbeats 1000000 in
theorem rnew_c (w : World) : Calls Try.prog 14 #[] w fun e w' => ∃ sb cap, e = .returned (.pointer (some ⟨w.heap.size, 0, none⟩)) ∧ RTab w' w.heap.size sb cap zeroL ∧ w.heap.size ≤ sb ∧ Kept w w' := by
  have infoE : (Try.prog.info? 54).map (fun i => (i.zero, i.size, i.bytes)) = some (some (.agg #[.bool false, .int .i64 0, .bool false, .int .i64 0]), 4, 32) := by kernel_rfl
  obtain ⟨i0, hi, hz0, hz1, hz2⟩ := info_parts infoE
  clear infoE
  go_enter Try.func14, Try.ntmps14
  go_wp2
  go_loopw [2] (fun i wr => ∃ (j : Nat) (a : Option Addr) (c : Nat), j ≤ 64 ∧ i = .int .i64 j ∧ Hid (wr.cell? ⟨w.heap.size, 0, none⟩ = some (.slice a j c) ∧ wr.frozen? ⟨w.heap.size, 0, none⟩ = false ∧ wr.ownsRow (w.heap.size + 1) 54 4 (.slice a j c) j (zrow j) ∧ Kept w wr ∧ w.heap.size < wr.heap.size)) (fun i _ => 64 - (intOf i).toNat)
  case atStart => exact ⟨0, none, 0, by omega, rfl, by simp, by rw [frozen?_alloc_cells]; simp [World.frozen?], World.ownsRow_nil _ _ _ _, (Kept.refl _).alloc _, by simp⟩
  case round =>
    obtain ⟨j, a, c, hj, rfl, hown⟩ := hrel
    obtain ⟨hc, hf, -, -, hsz⟩ := hown.out
    by_cases hlt : j < 64
    · go_wp2_with (at_builtin; refine wpList_append_own_at _ rfl _ _ 50 rfl (w.heap.size + 1) 54 i0 (.agg #[.bool false, .int .i64 0, .bool false, .int .i64 0]) 4 32 Try.underlying50 hi hz0 hz1 hz2 rfl (by decide) _ _ _ rfl (hown.out.2.2.1.alloc _) ⟨wr.heap.size, 0, none⟩ 1 1 [.bool false, .int .i64 0, .bool false, .int .i64 0] rfl rfl (cells_new _ _ _) ?c2 ?c3 ?c4 ?c5 ?_)
      case c2 => simp [Value.oneCell']
      case c3 => simp [maxLen]; omega
      case c4 => omega
      case c5 => simp; omega
      intro v' w1 hown' hgrow _ hloc
      obtain ⟨g, cap, rfl⟩ := ownsRow_succ hown'
      have hob : ∀ k, (Value.slice a j c).ownBlock = some k → w.heap.size + 1 ≤ k := fun k hk => (hown.out.2.2.1.lt k hk).1
      have hne : some w.heap.size ≠ (Value.slice a j c).ownBlock := fun e => by have := hob _ e.symm; omega
      have hk1 : Kept w w1 := Below.grown (hown.out.2.2.2.1.alloc _) hgrow (by simp; omega) (fun k hk => by have := hob k hk; omega)
      have hc1 := hgrow.cell (a := ⟨w.heap.size, 0, none⟩) ((World.cell?_alloc_lt _ _ _ hsz).trans hc) hne
      have hf1 : w1.frozen? ⟨w.heap.size, 0, none⟩ = false := by
        rw [World.frozen?_of_block (a := ⟨w.heap.size, 0, none⟩) (hgrow.block w.heap.size (by simp; omega) hne), frozen?_alloc_cells]; exact hf
      have hsz1 : w.heap.size < w1.heap.size := by have := hgrow.size; simp at this; omega
      have HO := Lib.hid hown'
      have HK := Lib.hid hk1
      clear hown' hgrow hob hne hk1 hc hf hsz hloc
      go_wp2_with fail
      go_roundw
      case rel => exact ⟨j + 1, _, _, by omega, by go_num, World.cell?_setCell_same _ _ _ hc1, by rw [World.frozen?_setCell]; exact hf1, ownsRow_setCell_below HO.out (by simp) _, HK.out.setCell (by simp) _, by simpa [World.setCell] using hsz1⟩
      case measure => simp [intOf]; omega
    · obtain rfl : j = 64 := by omega
      clear hc hf hsz
      obtain ⟨hc, hf, ho, hk, hsz⟩ := hown.out
      obtain ⟨g, cap, hg⟩ := ownsRow_succ (k := 63) ho
      injection hg with h1 h2 h3
      subst h1 h3
      have hT := Lib.hid (rtab_of hc ho)
      have HK := Lib.hid hk
      have hgb := (ho.lt g rfl).1
      clear hown hc hf ho hk h2
      go_wp2_with fail
      go_ret
      exact ⟨g, c, rfl, hT.out, by omega, HK.out⟩
end Go.Proofs.Ytnmkejdepmijeaa.C

/- The two New: a table of n fresh frames. -/
import Derived.Test.YtcmflbjaloandaaE
import Derived.RangeFuncBox
import Derived.Maps.AppendAt
import Derived.Deep.RegionHeld3
import Derived.Deep.RegionLaw
import Derived.Deep.AppendLies
namespace Go.Proofs.Ytcmflbjaloandaa.C
open Go.RowKit

def frow : Nat → List Value
  | 0 => []
  | n + 1 => frow n ++ [.int .i64 0, .int .i64 0, .int .i64 (-1), .int .i64 0]

theorem frow_len (n : Nat) : (frow n).length = n * 4 := by
  induction n with
  | zero => rfl
  | succ n ih => simp [frow, ih]; omega
theorem frow_at (n i j : Nat) (hi : i < n) (hj : j < 4) : (frow n)[i * 4 + j]? = some ([Value.int .i64 0, .int .i64 0, .int .i64 (-1), .int .i64 0][j]!) := by
  induction n with
  | zero => omega
  | succ n ih =>
    by_cases h : i < n
    · rw [show frow (n + 1) = frow n ++ [.int .i64 0, .int .i64 0, .int .i64 (-1), .int .i64 0] from rfl, List.getElem?_append_left (by rw [frow_len]; omega)]
      exact ih h
    · obtain rfl : i = n := by omega
      rw [show frow (i + 1) = frow i ++ [.int .i64 0, .int .i64 0, .int .i64 (-1), .int .i64 0] from rfl, List.getElem?_append_right (by rw [frow_len]; omega), frow_len]
      rw [show i * 4 + j - i * 4 = j from by omega]
      match j, hj with
      | 0, _ => rfl
      | 1, _ => rfl
      | 2, _ => rfl
      | 3, _ => rfl

theorem cells_new (w : World) (xs : List Value) (t : TypeId) : ∀ j u, xs[j]? = some u → (w.alloc (.cells xs.toArray t)).cell? ((⟨w.heap.size, 0, none⟩ : Addr).add j) = some u := by
  intro j u hj
  have e : ((⟨w.heap.size, 0, none⟩ : Addr).add j) = ⟨w.heap.size, j, none⟩ := by unfold Addr.add; split <;> simp_all
  rw [e, World.cell?_alloc_new]
  simpa using hj

theorem tb_of {w : World} {tb g n cap : Nat} {T : TypeId} (hp : 0 < n) (hn : n ≤ 64) (hc : w.cell? ⟨tb, 0, none⟩ = some (.slice (some ⟨g, 0, none⟩) n cap)) (ho : w.ownsRow (tb + 1) T 4 (.slice (some ⟨g, 0, none⟩) n cap) n (frow n)) :
    Tb w tb g n cap (fun _ => fresh) := by
  have hl := (ho.lt g rfl).1
  refine ⟨by omega, hp, hn, hc, fun i hi => ?_, fun i hi => ?_, fun i hi => ?_, fun i hi => ?_, fun _ _ => by simp [fresh], fun _ _ => by simp [fresh], fun o => ho.frozenAt o⟩
  · have h := frow_at n i 0 hi (by omega)
    rw [← ho.cellAt _ (by omega)] at h; exact h
  · have h := frow_at n i 1 hi (by omega)
    rw [← ho.cellAt _ (by omega)] at h; exact h
  · have h := frow_at n i 2 hi (by omega)
    rw [← ho.cellAt _ (by omega)] at h; exact h
  · have h := frow_at n i 3 hi (by omega)
    rw [← ho.cellAt _ (by omega)] at h; exact h

theorem new_bad (w : World) (F : Int) (h : F < 1 ∨ 64 < F) : Calls Try.prog 15 #[.int .i64 F] w fun e w' => e = .returned (.tuple #[.pointer none, .int .i64 1]) ∧ w = w' := by
  by_cases h1 : F < 1
  · clear h
    go_enter Try.func15, Try.ntmps15
    go_wp2
    go_ret2
    exact ⟨rfl, rfl⟩
  · have h2 : 64 < F := by omega
    have h3 : 1 ≤ F := by omega
    clear h h1
    go_enter Try.func15, Try.ntmps15
    go_wp2
    go_ret2
    exact ⟨rfl, rfl⟩
theorem rnew_bad (w : World) (F : Int) (h : F < 1 ∨ 64 < F) : Calls Try.prog 17 #[.int .i64 F] w fun e w' => e = .returned (.tuple #[.pointer none, .int .i64 1]) ∧ w = w' := by
  by_cases h1 : F < 1
  · clear h
    go_enter Try.func17, Try.ntmps17
    go_wp2
    go_ret2
    exact ⟨rfl, rfl⟩
  · have h2 : 64 < F := by omega
    have h3 : 1 ≤ F := by omega
    clear h h1
    go_enter Try.func17, Try.ntmps17
    go_wp2
    go_ret2
    exact ⟨rfl, rfl⟩

set_option maxHeartbeats 1000000 in
theorem rnew_c (w : World) (n : Nat) (hp : 0 < n) (hn : n ≤ 64) : Calls Try.prog 17 #[.int .i64 n] w fun e w' => ∃ sb cap, e = .returned (.tuple #[.pointer (some ⟨w.heap.size, 0, none⟩), .int .i64 0]) ∧ Tb w' w.heap.size sb n cap (fun _ => fresh) ∧ w.heap.size ≤ sb ∧ Kept w w' := by
  have infoE : (Try.prog.info? 45).map (fun i => (i.zero, i.size, i.bytes)) = some (some (.agg #[.int .i64 0, .int .i64 0, .int .i64 0, .int .i64 0]), 4, 32) := by kernel_rfl
  obtain ⟨i0, hi, hz0, hz1, hz2⟩ := info_parts infoE
  clear infoE
  go_enter Try.func17, Try.ntmps17
  go_wp2
  go_loopw [5] (fun i wr => ∃ (j : Nat) (a : Option Addr) (c : Nat), j ≤ n ∧ i = .int .i64 j ∧ Hid (wr.cell? ⟨w.heap.size, 0, none⟩ = some (.slice a j c) ∧ wr.frozen? ⟨w.heap.size, 0, none⟩ = false ∧ wr.ownsRow (w.heap.size + 1) 45 4 (.slice a j c) j (frow j) ∧ Kept w wr ∧ w.heap.size < wr.heap.size)) (fun i _ => n - (intOf i).toNat)
  case atStart => exact ⟨0, none, 0, by omega, rfl, by simp, by rw [frozen?_alloc_cells]; simp [World.frozen?], World.ownsRow_nil _ _ _ _, (Kept.refl _).alloc _, by simp⟩
  case round =>
    obtain ⟨j, a, c, hj, rfl, hown⟩ := hrel
    obtain ⟨hc, hf, -, -, hsz⟩ := hown.out
    by_cases hlt : j < n
    · go_wp2_with (at_builtin; refine wpList_append_own_at _ rfl _ _ 56 rfl (w.heap.size + 1) 45 i0 (.agg #[.int .i64 0, .int .i64 0, .int .i64 0, .int .i64 0]) 4 32 Try.underlying56 hi hz0 hz1 hz2 rfl (by decide) _ _ _ rfl (hown.out.2.2.1.alloc _) ⟨wr.heap.size, 0, none⟩ 1 1 [.int .i64 0, .int .i64 0, .int .i64 (-1), .int .i64 0] rfl rfl (cells_new _ _ _) ?c2 ?c3 ?c4 ?c5 ?_)
      case c2 => simp [Value.oneCell']
      case c3 => simp [maxLen]; omega
      case c4 => omega
      case c5 => simp; omega
      intro v' w1 hown' hgrow _ hloc
      obtain ⟨g, cap, rfl⟩ := ownsRow_succ hown'
      have hob : ∀ k, (Value.slice a j c).ownBlock = some k → w.heap.size + 1 ≤ k := fun k hk => (hown.out.2.2.1.lt k hk).1
      have hne : some w.heap.size ≠ (Value.slice a j c).ownBlock := fun e => by have := hob _ e.symm; omega
      have hk1 : Kept w w1 := Below.grown (hown.out.2.2.2.1.alloc _) hgrow (by simp; omega) (fun k hk => by have := hob k hk; omega)
      have hc1 := hgrow.cell (a := ⟨w.heap.size, 0, none⟩) ((World.cell?_alloc_lt _ _ _ hsz).trans hc) hne
      have hf1 : w1.frozen? ⟨w.heap.size, 0, none⟩ = false := by
        rw [World.frozen?_of_block (a := ⟨w.heap.size, 0, none⟩) (hgrow.block w.heap.size (by simp; omega) hne), frozen?_alloc_cells]; exact hf
      have hsz1 : w.heap.size < w1.heap.size := by have := hgrow.size; simp at this; omega
      have HO := Lib.hid hown'
      have HK := Lib.hid hk1
      clear hown' hgrow hob hne hk1 hc hf hsz hloc
      go_wp2_with fail
      go_roundw
      case rel => exact ⟨j + 1, _, _, by omega, by go_num, World.cell?_setCell_same _ _ _ hc1, by rw [World.frozen?_setCell]; exact hf1, ownsRow_setCell_below HO.out (by simp) _, HK.out.setCell (by simp) _, by simpa [World.setCell] using hsz1⟩
      case measure => simp [intOf]; omega
    · obtain rfl : j = n := by omega
      clear hc hf hsz
      obtain ⟨hc, hf, ho, hk, hsz⟩ := hown.out
      obtain ⟨g, cap, hg⟩ := ownsRow_succ (k := j - 1) (by rw [show j - 1 + 1 = j from by omega]; exact ho)
      injection hg with h1 h2 h3
      subst h1 h3
      have hT := Lib.hid (tb_of hp hn hc ho)
      have HK := Lib.hid hk
      have hgb := (ho.lt g rfl).1
      clear hown hc hf ho hk h2
      go_wp2_with fail
      go_ret2
      exact ⟨g, c, rfl, hT.out, by omega, HK.out⟩

set_option maxHeartbeats 1000000 in
theorem new_c (w : World) (n : Nat) (hp : 0 < n) (hn : n ≤ 64) : Calls Try.prog 15 #[.int .i64 n] w fun e w' => ∃ sb cap, e = .returned (.tuple #[.pointer (some ⟨w.heap.size, 0, none⟩), .int .i64 0]) ∧ Tb w' w.heap.size sb n cap (fun _ => fresh) ∧ w.heap.size ≤ sb ∧ Kept w w' := by
  have infoE : (Try.prog.info? 52).map (fun i => (i.zero, i.size, i.bytes)) = some (some (.agg #[.int .i64 0, .int .i64 0, .int .i64 0, .int .i64 0]), 4, 32) := by kernel_rfl
  obtain ⟨i0, hi, hz0, hz1, hz2⟩ := info_parts infoE
  clear infoE
  go_enter Try.func15, Try.ntmps15
  go_wp2
  go_loopw [14] (fun i wr => ∃ (j : Nat) (a : Option Addr) (c : Nat), j ≤ n ∧ i = .int .i64 j ∧ Hid (wr.cell? ⟨w.heap.size, 0, none⟩ = some (.slice a j c) ∧ wr.frozen? ⟨w.heap.size, 0, none⟩ = false ∧ wr.ownsRow (w.heap.size + 1) 52 4 (.slice a j c) j (frow j) ∧ Kept w wr ∧ w.heap.size < wr.heap.size)) (fun i _ => n - (intOf i).toNat)
  case atStart => exact ⟨0, none, 0, by omega, rfl, by simp, by rw [frozen?_alloc_cells]; simp [World.frozen?], World.ownsRow_nil _ _ _ _, (Kept.refl _).alloc _, by simp⟩
  case round =>
    obtain ⟨j, a, c, hj, rfl, hown⟩ := hrel
    obtain ⟨hc, hf, -, -, hsz⟩ := hown.out
    by_cases hlt : j < n
    · have HN : Hid (∀ j u, [Value.int .i64 0, .int .i64 0, .int .i64 (-1), .int .i64 0][j]? = some u → ((wr.alloc (.cells #[.int .i64 0, .int .i64 0, .int .i64 (-1), .int .i64 0] 52)).alloc (.cells #[.int .i64 0, .int .i64 0, .int .i64 (-1), .int .i64 0] 52)).drew.cell? ((⟨wr.heap.size + 1, 0, none⟩ : Addr).add j) = some u) := by
        intro j u hj
        have h := cells_new (wr.alloc (.cells #[.int .i64 0, .int .i64 0, .int .i64 (-1), .int .i64 0] 52)) _ 52 j u hj
        simpa using h
      go_wp2_with fail
      go_region_law (first
        | (go_simp; go_at_call 26; refine (fresh_c _).mono ?_; rintro e w' ⟨rfl, rfl⟩)
        | (refine step_append_lies _ (by rfl) _ _ _ (by rfl) (w.heap.size + 1) 52 i0 (.agg #[.int .i64 0, .int .i64 0, .int .i64 0, .int .i64 0]) 4 32 Try.underlying23 hi hz0 hz1 hz2 rfl (by decide) (.slice a j c) j (frow j) (by rfl) ((((hown.out.2.2.1).alloc _).alloc _).drew) ⟨wr.heap.size + 1, 0, none⟩ 1 1 [.int .i64 0, .int .i64 0, .int .i64 (-1), .int .i64 0] (by rfl) (by rfl) HN.out (by simp [Value.oneCell']) (by omega) (by simp [maxLen]; omega) (by omega) (by simp; omega) (wr.heap.size + 2) (by simp) ?_
           intro g cap w1 hown1 hgrow hat hlt1
           have hob : ∀ k, (Value.slice a j c).ownBlock = some k → w.heap.size + 1 ≤ k := fun k hk => (hown.out.2.2.1.lt k hk).1
           have hne : some w.heap.size ≠ (Value.slice a j c).ownBlock := fun e => by have := hob _ e.symm; omega
           have hk1 : Kept w w1 := Below.grown ((((hown.out.2.2.2.1).alloc _).alloc _).drew) hgrow (by simp; omega) (fun k hk => by have := hob k hk; omega)
           have hc1 := hgrow.cell (a := ⟨w.heap.size, 0, none⟩) ((World.cell?_alloc_lt _ _ _ (by simp; omega)).trans ((World.cell?_alloc_lt _ _ _ hsz).trans hc)) hne
           have hf1 : w1.frozen? ⟨w.heap.size, 0, none⟩ = false := by
             rw [World.frozen?_of_block (a := ⟨w.heap.size, 0, none⟩) (hgrow.block w.heap.size (by simp; omega) hne)]
             have e1 := (frozen?_alloc_cells (wr.alloc (.cells #[.int .i64 0, .int .i64 0, .int .i64 (-1), .int .i64 0] 52)) #[.int .i64 0, .int .i64 0, .int .i64 (-1), .int .i64 0] 52 ⟨w.heap.size, 0, none⟩)
             exact e1.trans ((frozen?_alloc_cells wr _ _ _).trans hf)
           have hsz1 : w.heap.size < w1.heap.size := by have := hgrow.size; simp at this; omega
           have HO := Lib.hid hown1
           have HK := Lib.hid hk1
           clear hown1 hgrow hob hne hk1 hc hf hsz hat hlt1))
      all_goals
        go_wp2_with fail
        go_roundw
        case rel => exact ⟨j + 1, _, _, by omega, by go_num, World.cell?_setCell_same _ _ _ hc1, by rw [World.frozen?_setCell]; exact hf1, ownsRow_setCell_below HO.out (by simp) _, HK.out.setCell (by simp) _, by simpa [World.setCell] using hsz1⟩
        case measure => simp [intOf]; omega
    · obtain rfl : j = n := by omega
      clear hc hf hsz
      obtain ⟨hc, hf, ho, hk, hsz⟩ := hown.out
      obtain ⟨g, cap, hg⟩ := ownsRow_succ (k := j - 1) (by rw [show j - 1 + 1 = j from by omega]; exact ho)
      injection hg with h1 h2 h3
      subst h1 h3
      have hT := Lib.hid (tb_of hp hn hc ho)
      have HK := Lib.hid hk
      have hgb := (ho.lt g rfl).1
      clear hown hc hf ho hk h2
      go_wp2_with fail
      go_ret2
      exact ⟨g, c, rfl, hT.out, by omega, HK.out⟩
end Go.Proofs.Ytcmflbjaloandaa.C

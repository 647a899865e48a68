/- The contracts of package typ. -/
import Derived.Test.YtcjadneamacilaaM
import Derived.RangeFuncBox
import Derived.Maps.AppendAt
import Derived.Deep.RegionHeld3
import Derived.Deep.RegionLaw
import Derived.Deep.AppendLies
namespace Go.Proofs.Ytcjadneamacilaa.C
open Go.RowKit

theorem none_c (w : World) (tb sb n cap : Nat) (L : Nat → Fm) (h : Tb w tb sb n cap L) :
    Calls Try.prog 82 #[.pointer (some ⟨tb, 0, none⟩)] w fun e w' => e = .returned (.bool false) ∧ w = w' := by
  have h1 := h.hd
  have hp := h.pos
  have b1 : ((n : Int) == 0) = false := by simp; omega
  clear h
  go_enter Try.func82, Try.ntmps82
  go_wp2
  go_ret
  exact ⟨rfl, rfl⟩

def canE (n : Nat) (f : Int) : Int := if 0 ≤ f ∧ f < n then 0 else 1

theorem can_c (w : World) (tb sb n cap : Nat) (L : Nat → Fm) (f : Int) (h : Tb w tb sb n cap L) :
    Calls Try.prog 54 #[.pointer (some ⟨tb, 0, none⟩), .int .i64 f] w fun e w' => e = .returned (.int .i64 (canE n f)) ∧ w = w' := by
  have H := Lib.hid h
  have hd := h.hd
  have hp := h.pos
  have hl := h.le
  clear h
  by_cases h1 : 0 ≤ f
  · by_cases h2 : f < n
    · rw [show canE n f = 0 from if_pos ⟨h1, h2⟩]
      go_enter Try.func54, Try.ntmps54
      go_wp2_with (go_at_call 82; refine (none_c _ tb sb n cap L H.out).mono ?_; rintro e w' ⟨rfl, rfl⟩)
      go_ret
      exact ⟨rfl, rfl⟩
    · rw [show canE n f = 1 from if_neg (by omega)]
      go_enter Try.func54, Try.ntmps54
      go_wp2_with (go_at_call 82; refine (none_c _ tb sb n cap L H.out).mono ?_; rintro e w' ⟨rfl, rfl⟩)
      go_ret
      exact ⟨rfl, rfl⟩
  · rw [show canE n f = 1 from if_neg (by omega)]
    go_enter Try.func54, Try.ntmps54
    go_wp2_with (go_at_call 82; refine (none_c _ tb sb n cap L H.out).mono ?_; rintro e w' ⟨rfl, rfl⟩)
    go_ret
    exact ⟨rfl, rfl⟩

theorem fresh_c (w : World) : Calls Try.prog 79 #[] w fun e w' => e = .returned (.agg #[.int .i64 0, .int .i64 0, .int .i64 (-1), .int .i64 0]) ∧ w.alloc (.cells #[.int .i64 0, .int .i64 0, .int .i64 (-1), .int .i64 0] 128) = w' := by
  go_enter Try.func79, Try.ntmps79
  go_wp2
  exact bodyPost_ret (v := .agg #[.int .i64 0, .int .i64 0, .int .i64 (-1), .int .i64 0]) (by simp [results, Try.results79, go_sem]) rfl ⟨rfl, rfl⟩

theorem of_c (w : World) (tb sb n cap : Nat) (L : Nat → Fm) (f : Int) (h : Tb w tb sb n cap L) :
    Calls Try.prog 83 #[.pointer (some ⟨tb, 0, none⟩), .int .i64 f] w fun e w' => e = .returned (.agg #[.int .i64 (getF n L f).ty, .int .i64 (getF n L f).ct, .int .i64 (getF n L f).fr, .int .i64 (getF n L f).wa]) ∧ Kept w w' := by
  have H := Lib.hid h
  have hd := h.hd
  have hp := h.pos
  have hl := h.le
  by_cases hr : 0 ≤ f ∧ f < n
  · obtain ⟨k, rfl⟩ : ∃ k : Nat, f = k := ⟨f.toNat, by omega⟩
    obtain ⟨r0, r1⟩ := hr
    have hk : k < n := by omega
    have HC : Hid (canE n k = 0) := if_pos ⟨r0, r1⟩
    have e0 : getF n L k = L k := by unfold getF; rw [if_pos ⟨r0, r1⟩]; rfl
    rw [e0]
    have c0 := h.c0 k hk
    have c1 := h.c1 k hk
    have c2 := h.c2 k hk
    have c3 := h.c3 k hk
    have hlt := h.lt
    have hlt2 := h.ltt
    clear h e0
    go_enter Try.func83, Try.ntmps83
    go_wp2_with (go_at_call 54; refine (can_c _ tb sb n cap L _ (H.out.kept ((Kept.refl _).alloc _))).mono ?_; rw [HC.out]; rintro e w' ⟨rfl, rfl⟩)
    exact bodyPost_ret (v := .agg #[.int .i64 (L k).ty, .int .i64 (L k).ct, .int .i64 (L k).fr, .int .i64 (L k).wa]) (by simp [results, Try.results83, go_sem]) rfl ⟨rfl, (Kept.refl _).alloc _⟩
  · have e0 : getF n L f = fresh := if_neg hr
    have HC : Hid (canE n f = 1) := if_neg hr
    rw [e0]
    have hlt := h.lt
    have hlt2 := h.ltt
    clear h e0
    go_enter Try.func83, Try.ntmps83
    go_wp2_with (first | (go_at_call 54; refine (can_c _ tb sb n cap L _ (H.out.kept ((Kept.refl _).alloc _))).mono ?_; rw [HC.out]; rintro e w' ⟨rfl, rfl⟩) | (go_at_call 79; refine (fresh_c _).mono ?_; rintro e w' ⟨rfl, rfl⟩))
    refine bodyPost_ret (v := .agg #[.int .i64 0, .int .i64 0, .int .i64 (-1), .int .i64 0]) (by simp [results, Try.results83, go_sem]) rfl ⟨rfl, ?_⟩
    exact ((Kept.refl _).alloc _).alloc _

theorem fld0 (a b c d : Int) (w : World) : (Instr.field 128 (.agg #[.int .i64 a, .int .i64 b, .int .i64 c, .int .i64 d]) 0).run Try.prog w = .ok (.int .i64 a) w := by kernel_rfl

theorem fld1 (a b c d : Int) (w : World) : (Instr.field 128 (.agg #[.int .i64 a, .int .i64 b, .int .i64 c, .int .i64 d]) 1).run Try.prog w = .ok (.int .i64 b) w := by kernel_rfl

theorem type_c (w : World) (tb sb n cap : Nat) (L : Nat → Fm) (f : Int) (h : Tb w tb sb n cap L) :
    Calls Try.prog 60 #[.pointer (some ⟨tb, 0, none⟩), .int .i64 f] w fun e w' => e = .returned (.int .i64 (getF n L f).ty) ∧ Kept w w' := by
  have H := Lib.hid h
  clear h
  have hf := fld0
  go_enter Try.func60, Try.ntmps60
  go_wp2_with (go_at_call 83; refine (of_c _ tb sb n cap L _ H.out).mono ?_; rintro e w1 ⟨rfl, hk1⟩)
  go_ret
  exact ⟨rfl, hk1⟩

theorem count_c (w : World) (tb sb n cap : Nat) (L : Nat → Fm) (f : Int) (h : Tb w tb sb n cap L) :
    Calls Try.prog 61 #[.pointer (some ⟨tb, 0, none⟩), .int .i64 f] w fun e w' => e = .returned (.int .i64 (getF n L f).ct) ∧ Kept w w' := by
  have H := Lib.hid h
  clear h
  have hf := fld1
  go_enter Try.func61, Try.ntmps61
  go_wp2_with (go_at_call 83; refine (of_c _ tb sb n cap L _ H.out).mono ?_; rintro e w1 ⟨rfl, hk1⟩)
  go_ret
  exact ⟨rfl, hk1⟩

def frow : Nat → List Value
  | 0 => []
  | n + 1 => frow n ++ [.int .i64 0, .int .i64 0, .int .i64 (-1), .int .i64 0]

theorem frow_len (n : Nat) : (frow n).length = n * 4 := by
  induction n with
  | zero => rfl
  | succ n ih => simp [frow, ih]; omega

theorem frow_at (n i j : Nat) (hi : i < n) (hj : j < 4) : (frow n)[i * 4 + j]? = some ([Value.int .i64 0, .int .i64 0, .int .i64 (-1), .int .i64 0][j]!) := by
  induction n with
  | zero => omega
  | succ n ih =>
    by_cases h : i < n
    · rw [show frow (n + 1) = frow n ++ [.int .i64 0, .int .i64 0, .int .i64 (-1), .int .i64 0] from rfl, List.getElem?_append_left (by rw [frow_len]; omega)]
      exact ih h
    · obtain rfl : i = n := by omega
      rw [show frow (i + 1) = frow i ++ [.int .i64 0, .int .i64 0, .int .i64 (-1), .int .i64 0] from rfl, List.getElem?_append_right (by rw [frow_len]; omega), frow_len]
      rw [show i * 4 + j - i * 4 = j from by omega]
      match j, hj with
      | 0, _ => rfl
      | 1, _ => rfl
      | 2, _ => rfl
      | 3, _ => rfl

theorem cells_new (w : World) (xs : List Value) (t : TypeId) : ∀ j u, xs[j]? = some u → (w.alloc (.cells xs.toArray t)).cell? ((⟨w.heap.size, 0, none⟩ : Addr).add j) = some u := by
  intro j u hj
  have e : ((⟨w.heap.size, 0, none⟩ : Addr).add j) = ⟨w.heap.size, j, none⟩ := by unfold Addr.add; split <;> simp_all
  rw [e, World.cell?_alloc_new]
  simpa using hj

theorem tb_of {w : World} {tb g n cap : Nat} {T : TypeId} (hp : 0 < n) (hn : n ≤ 64) (hc : w.cell? ⟨tb, 0, none⟩ = some (.slice (some ⟨g, 0, none⟩) n cap)) (ho : w.ownsRow (tb + 1) T 4 (.slice (some ⟨g, 0, none⟩) n cap) n (frow n)) :
    Tb w tb g n cap (fun _ => fresh) := by
  have hl := (ho.lt g rfl).1
  refine ⟨by omega, hp, hn, hc, fun i hi => ?_, fun i hi => ?_, fun i hi => ?_, fun i hi => ?_, fun _ _ => by simp [fresh], fun _ _ => by simp [fresh], fun o => ho.frozenAt o⟩
  · have h := frow_at n i 0 hi (by omega)
    rw [← ho.cellAt _ (by omega)] at h; exact h
  · have h := frow_at n i 1 hi (by omega)
    rw [← ho.cellAt _ (by omega)] at h; exact h
  · have h := frow_at n i 2 hi (by omega)
    rw [← ho.cellAt _ (by omega)] at h; exact h
  · have h := frow_at n i 3 hi (by omega)
    rw [← ho.cellAt _ (by omega)] at h; exact h

set_option maxRecDepth 100000 in
set_option maxHeartbeats 1000000 in
theorem new_c (w : World) (n : Nat) (hp : 0 < n) (hn : n ≤ 64) : Calls Try.prog 39 #[.int .i64 n] w fun e w' => ∃ sb cap, e = .returned (.tuple #[.pointer (some ⟨w.heap.size, 0, none⟩), .int .i64 0]) ∧ Tb w' w.heap.size sb n cap (fun _ => fresh) ∧ w.heap.size ≤ sb ∧ Kept w w' := by
  have infoE : (Try.prog.info? 128).map (fun i => (i.zero, i.size, i.bytes)) = some (some (.agg #[.int .i64 0, .int .i64 0, .int .i64 0, .int .i64 0]), 4, 32) := by kernel_rfl
  obtain ⟨i0, hi, hz0, hz1, hz2⟩ := info_parts infoE
  clear infoE
  go_enter Try.func39, Try.ntmps39
  go_wp2
  go_loopw [14] (fun i wr => ∃ (j : Nat) (a : Option Addr) (c : Nat), j ≤ n ∧ i = .int .i64 j ∧ Hid (wr.cell? ⟨w.heap.size, 0, none⟩ = some (.slice a j c) ∧ wr.frozen? ⟨w.heap.size, 0, none⟩ = false ∧ wr.ownsRow (w.heap.size + 1) 128 4 (.slice a j c) j (frow j) ∧ Kept w wr ∧ w.heap.size < wr.heap.size)) (fun i _ => n - (intOf i).toNat)
  case atStart => exact ⟨0, none, 0, by omega, rfl, by simp, by rw [frozen?_alloc_cells]; simp [World.frozen?], World.ownsRow_nil _ _ _ _, (Kept.refl _).alloc _, by simp⟩
  case round =>
    obtain ⟨j, a, c, hj, rfl, hown⟩ := hrel
    obtain ⟨hc, hf, -, -, hsz⟩ := hown.out
    by_cases hlt : j < n
    · have HN : Hid (∀ j u, [Value.int .i64 0, .int .i64 0, .int .i64 (-1), .int .i64 0][j]? = some u → ((wr.alloc (.cells #[.int .i64 0, .int .i64 0, .int .i64 (-1), .int .i64 0] 128)).alloc (.cells #[.int .i64 0, .int .i64 0, .int .i64 (-1), .int .i64 0] 128)).drew.cell? ((⟨wr.heap.size + 1, 0, none⟩ : Addr).add j) = some u) := by
        intro j u hj
        have h := cells_new (wr.alloc (.cells #[.int .i64 0, .int .i64 0, .int .i64 (-1), .int .i64 0] 128)) _ 128 j u hj
        simpa using h
      go_wp2_with fail
      go_region_law (first
        | (go_simp; go_at_call 79; refine (fresh_c _).mono ?_; rintro e w' ⟨rfl, rfl⟩)
        | (refine step_append_lies _ (by rfl) _ _ _ (by rfl) (w.heap.size + 1) 128 i0 (.agg #[.int .i64 0, .int .i64 0, .int .i64 0, .int .i64 0]) 4 32 Try.underlying129 hi hz0 hz1 hz2 rfl (by decide) (.slice a j c) j (frow j) (by rfl) ((((hown.out.2.2.1).alloc _).alloc _).drew) ⟨wr.heap.size + 1, 0, none⟩ 1 1 [.int .i64 0, .int .i64 0, .int .i64 (-1), .int .i64 0] (by rfl) (by rfl) HN.out (by simp [Value.oneCell']) (by omega) (by simp [maxLen]; omega) (by omega) (by simp; omega) (wr.heap.size + 2) (by simp) ?_
           intro g cap w1 hown1 hgrow hat hlt1
           have hob : ∀ k, (Value.slice a j c).ownBlock = some k → w.heap.size + 1 ≤ k := fun k hk => (hown.out.2.2.1.lt k hk).1
           have hne : some w.heap.size ≠ (Value.slice a j c).ownBlock := fun e => by have := hob _ e.symm; omega
           have hk1 : Kept w w1 := Below.grown ((((hown.out.2.2.2.1).alloc _).alloc _).drew) hgrow (by simp; omega) (fun k hk => by have := hob k hk; omega)
           have hc1 := hgrow.cell (a := ⟨w.heap.size, 0, none⟩) ((World.cell?_alloc_lt _ _ _ (by simp; omega)).trans ((World.cell?_alloc_lt _ _ _ hsz).trans hc)) hne
           have hf1 : w1.frozen? ⟨w.heap.size, 0, none⟩ = false := by
             rw [World.frozen?_of_block (a := ⟨w.heap.size, 0, none⟩) (hgrow.block w.heap.size (by simp; omega) hne)]
             have e1 := (frozen?_alloc_cells (wr.alloc (.cells #[.int .i64 0, .int .i64 0, .int .i64 (-1), .int .i64 0] 128)) #[.int .i64 0, .int .i64 0, .int .i64 (-1), .int .i64 0] 128 ⟨w.heap.size, 0, none⟩)
             exact e1.trans ((frozen?_alloc_cells wr _ _ _).trans hf)
           have hsz1 : w.heap.size < w1.heap.size := by have := hgrow.size; simp at this; omega
           have HO := Lib.hid hown1
           have HK := Lib.hid hk1
           clear hown1 hgrow hob hne hk1 hc hf hsz hat hlt1))
      all_goals
        go_wp2_with fail
        go_roundw
        case rel => exact ⟨j + 1, _, _, by omega, by go_num, World.cell?_setCell_same _ _ _ hc1, by rw [World.frozen?_setCell]; exact hf1, ownsRow_setCell_below HO.out (by simp) _, HK.out.setCell (by simp) _, by simpa [World.setCell] using hsz1⟩
        case measure => simp [intOf]; omega
    · obtain rfl : j = n := by omega
      clear hc hf hsz
      obtain ⟨hc, hf, ho, hk, hsz⟩ := hown.out
      obtain ⟨g, cap, hg⟩ := ownsRow_succ (k := j - 1) (by rw [show j - 1 + 1 = j from by omega]; exact ho)
      injection hg with h1 h2 h3
      subst h1 h3
      have hT := Lib.hid (tb_of hp hn hc ho)
      have HK := Lib.hid hk
      have hgb := (ho.lt g rfl).1
      clear hown hc hf ho hk h2
      go_wp2_with fail
      go_ret2
      exact ⟨g, c, rfl, hT.out, by omega, HK.out⟩

end Go.Proofs.Ytcjadneamacilaa.C

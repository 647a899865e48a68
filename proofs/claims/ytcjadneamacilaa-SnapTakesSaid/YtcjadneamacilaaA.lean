/- snap.apart: the iterator over the places at which two rows are not the same. -/
import Derived.RangeFuncNested
import Derived.RangeFuncBound
import Derived.RangeFuncCalls
import Derived.RangeFuncLeaves
import Derived.RangeFuncBox
import Derived.Shelf.Abstract
import Derived.Shelf.RegionOpen
import Derived.OwnWalkIn
import Derived.TacticsInMore
import Derived.LoopNIn
import Derived.LoopIn
import Derived.Test.YtcjadneamacilaaG
namespace Go.Proofs.Ytcjadneamacilaa.C
open Go.RowKit Go.Shelf
attribute [local go_sem] Oper.semAt_some

/-- The places below k at which they are not the same. -/
def dif (z y : Nat → Int) (nb k : Nat) : List Int := ((List.range k).filter fun i => decide (i < nb) && (z i != y i)).map fun i : Nat => (i : Int)
theorem dif_hit (z y : Nat → Int) (nb k : Nat) (h1 : k < nb) (h2 : z k ≠ y k) : dif z y nb (k + 1) = dif z y nb k ++ [(k : Int)] := by
  simp [dif, List.range_succ, List.filter_append, h1, h2]
theorem dif_miss (z y : Nat → Int) (nb k : Nat) (h : ¬ (k < nb ∧ z k ≠ y k)) : dif z y nb (k + 1) = dif z y nb k := by
  simp only [dif, List.range_succ, List.filter_append, List.map_append]
  have : (decide (k < nb) && (z k != y k)) = false := by
    by_cases h1 : k < nb
    · have : z k = y k := Classical.byContradiction fun hh => h ⟨h1, hh⟩
      simp [this]
    · simp [h1]
  simp [this]
theorem dif_len (z y : Nat → Int) (nb k : Nat) : (dif z y nb k).length ≤ k := by
  unfold dif
  rw [List.length_map]
  exact Nat.le_trans (List.length_filter_le _ _) (by simp)
theorem dif_pre (z y : Nat → Int) (nb k n : Nat) (h : k ≤ n) : dif z y nb k <+: dif z y nb n := by
  induction n with
  | zero => obtain rfl : k = 0 := by omega
            exact List.prefix_refl _
  | succ n ih =>
    by_cases e : k = n + 1
    · subst e; exact List.prefix_refl _
    · refine (ih (by omega)).trans ?_
      by_cases hc : n < nb ∧ z n ≠ y n
      · rw [dif_hit z y nb n hc.1 hc.2]; exact List.prefix_append _ _
      · rw [dif_miss z y nb n hc]; exact List.prefix_refl _

/-- What a round that goes on keeps: what lay below n₀, and the two boxes. -/
def KpA (n₀ B1 B2 : Nat) (A B : World) : Prop := Below n₀ A B ∧ B.heap[B1]? = A.heap[B1]? ∧ B.heap[B2]? = A.heap[B2]?
theorem kpA_t {n₀ B1 B2 : Nat} {A B C : World} (h : KpA n₀ B1 B2 A B) (k : KpA n₀ B1 B2 B C) : KpA n₀ B1 B2 A C := ⟨h.1.trans k.1, k.2.1.trans h.2.1, k.2.2.trans h.2.2⟩
theorem kpA_b {n₀ B1 B2 : Nat} {w : World} (hn : n₀ ≤ w.heap.size) (h1 : B1 < w.heap.size) (h2 : B2 < w.heap.size) (W : World) (l : Nat) (o o' : Obj) (hl : w.heap.size ≤ l) (h : W.heap[l]? = some o) (hc : o.isCells = false) (hw : o.isWalk = false) : KpA n₀ B1 B2 W (W.putObj l o') := by
  have hg := grownBy_putObj' W l o'
  have hlW := (Array.getElem?_eq_some_iff.1 h).1
  exact ⟨belowK_b hn W l o o' hl h hc hw, hg.block B1 (by omega) (by intro e; injection e with e; omega), hg.block B2 (by omega) (by intro e; injection e with e; omega)⟩

theorem heap_cell {A B : World} {b : Nat} (h : B.heap[b]? = A.heap[b]?) {o : Nat} {v : Value} (hc : A.cell? ⟨b, o, none⟩ = some v) : B.cell? ⟨b, o, none⟩ = some v :=
  (World.cell?_of_block (a := ⟨b, o, none⟩) h).trans hc

theorem apart_in (F : Fence) (n : Nat) (h68 : F.fn 68) (hro : F.round = none) (a b : Option Addr) (na nb ca cb : Nat) (w : World) :
    CallsIn F n Try.prog 68 #[.slice a na ca, .slice b nb cb] w fun e w' => e = .returned (.func (.func 84) #[] #[.pointer (some ⟨w.heap.size, 0, none⟩), .pointer (some ⟨w.heap.size + 1, 0, none⟩)]) ∧ w' = (w.alloc (.cells #[.slice a na ca] 23)).alloc (.cells #[.slice b nb cb] 23) := by
  refine callsIn_of_wp Try.func68 rfl h68 ?_ hro
  simp only [Try.ntmps68, List.size_toArray, List.length_cons, List.length_nil, Nat.reduceAdd, Nat.reduceSub, Array.replicate_succ, Array.replicate_zero, List.push_toArray, List.append_toArray, List.nil_append, List.cons_append]
  gi_wp2
  go_ret
  exact ⟨rfl, rfl⟩

set_option maxRecDepth 100000 in
set_option maxHeartbeats 2000000 in
theorem apart1_in (F : Fence) (n : Nat) (h84 : F.fn 84) (hro : F.round = none) (hn : 1 ≤ n) (l B1 B2 : Nat) (w0 : World) (aa ab : Option Addr) (na nb ca cb : Nat) (z y : Nat → Int)
    (hA : RowI .u64 w0 aa na z) (hB : RowI .u64 w0 ab nb y) (J Jx : List Int → World → Prop)
    (hY : ∀ pre x W, J pre W → pre.length < na → YieldAt F (n - 1) Try.prog l #[.int .i64 x] W fun e W' =>
      (e = .returned (.bool true) ∧ J (pre ++ [x]) W' ∧ KpA w0.heap.size B1 B2 W W') ∨ (e = .returned (.bool false) ∧ Jx (pre ++ [x]) W'))
    (W : World) (hk : Kept w0 W) (hb1 : W.cell? ⟨B1, 0, none⟩ = some (.slice aa na ca)) (hb2 : W.cell? ⟨B2, 0, none⟩ = some (.slice ab nb cb)) (h0 : J [] W) :
    CallsIn F n Try.prog 84 #[.func (.yield l) #[] #[], .pointer (some ⟨B1, 0, none⟩), .pointer (some ⟨B2, 0, none⟩)] W fun e W' => (∃ v, e = .returned v) ∧
      ((∃ ys, ys = dif z y nb na ∧ J ys W') ∨ (∃ pre, pre <+: dif z y nb na ∧ Jx pre W')) := by
  have hmx : na ≤ 9223372036854775807 := by have := hA.1; simpa [maxLen] using this
  rcases Nat.eq_zero_or_pos na with hz | hz
  · subst hz
    clear hA hB
    refine callsIn_of_wp Try.func84 rfl h84 ?_ hro
    simp only [Try.ntmps84, List.size_toArray, List.length_cons, List.length_nil, Nat.reduceAdd, Nat.reduceSub, Array.replicate_succ, Array.replicate_zero, List.push_toArray, List.append_toArray, List.nil_append, List.cons_append]
    gi_wp2
    gi_loopw [8] (fun i wr => i = .int .i64 0 ∧ J [] wr) (fun _ _ => 0)
    case atStart => exact ⟨rfl, h0⟩
    case round =>
      obtain ⟨rfl, hJ⟩ := hrel
      gi_wp2
      go_end0
      exact ⟨⟨_, rfl⟩, .inl ⟨[], by simp [dif], hJ⟩⟩
  · obtain ⟨b1, o1, rfl, -⟩ := hA.2 hz
    have HA := Lib.hid hA
    have HB := Lib.hid hB
    clear hA
    refine callsIn_of_wp Try.func84 rfl h84 ?_ hro
    simp only [Try.ntmps84, List.size_toArray, List.length_cons, List.length_nil, Nat.reduceAdd, Nat.reduceSub, Array.replicate_succ, Array.replicate_zero, List.push_toArray, List.append_toArray, List.nil_append, List.cons_append]
    gi_wp2
    gi_loopw [8] (fun i wr => ∃ k : Nat, k ≤ na ∧ i = .int .i64 k ∧ Hid (Kept w0 wr ∧ wr.cell? ⟨B2, 0, none⟩ = some (.slice ab nb cb) ∧ wr.cell? ⟨B1, 0, none⟩ = some (.slice (some ⟨b1, o1, none⟩) na ca) ∧ J (dif z y nb k) wr)) (fun i _ => na - (intOf i).toNat)
    case atStart => exact ⟨0, by omega, rfl, hk, hb2, hb1, h0⟩
    case round =>
      clear hk hb1 hb2 h0
      obtain ⟨k, hk, rfl, hr⟩ := hrel
      by_cases hlt : k < na
      · have i1 : (k : Int) < na := by omega
        have c1 := hr.out.1.cell (HA.out.cellI rfl k hlt)
        have hb2 := hr.out.2.1
        by_cases hlb : k < nb
        · obtain ⟨b2, o2, rfl, -⟩ := hB.2 (by omega)
          have i2 : (k : Int) < nb := by omega
          have c2 := hr.out.1.cell (HB.out.cellI rfl k hlb)
          by_cases he : z k = y k
          · have be : (z k != y k) = false := by simp [he]
            have HD : Hid (dif z y nb (k + 1) = dif z y nb k) := dif_miss z y nb k (fun hh => hh.2 he)
            clear he hB
            gi_wp2
            refine ⟨fun _ h => (by cases h), ?_⟩
            gi_wp2
            go_roundw
            case rel => exact ⟨k + 1, by omega, by go_num, by rw [HD.out]; exact hr.out⟩
            case measure => simp [intOf]; omega
          · have be : (z k != y k) = true := by simp [he]
            have HD : Hid (dif z y nb (k + 1) = dif z y nb k ++ [(k : Int)]) := dif_hit z y nb k hlb he
            have HP : Hid (dif z y nb (k + 1) <+: dif z y nb na) := dif_pre z y nb (k + 1) na (by omega)
            obtain ⟨fn, tmps, assign, body, hy, hR⟩ := hY (dif z y nb k) k wr hr.out.2.2.2 (Nat.lt_of_le_of_lt (dif_len z y nb k) hlt)
            have HR := Lib.hid hR
            clear he hB hR
            gi_wp2
            refine HR.out.mono ?_
            rintro e W3 (⟨rfl, hJ3, hk3⟩ | ⟨rfl, hJx3⟩)
            · have HK : Hid (Kept w0 W3 ∧ W3.cell? ⟨B2, 0, none⟩ = some (.slice (some ⟨b2, o2, none⟩) nb cb) ∧ W3.cell? ⟨B1, 0, none⟩ = some (.slice (some ⟨b1, o1, none⟩) na ca) ∧ J (dif z y nb (k + 1)) W3) :=
                ⟨Below.trans hr.out.1 hk3.1, heap_cell hk3.2.2 hr.out.2.1, heap_cell hk3.2.1 hr.out.2.2.1, by rw [HD.out]; exact hJ3⟩
              clear hJ3 hk3
              gi_wp2
              go_roundw
              case rel => exact ⟨k + 1, by omega, by go_num, HK.out⟩
              case measure => simp [intOf]; omega
            · gi_wp2
              refine bodyPost_ret (results_none rfl _ _ _) rfl ?_
              exact ⟨⟨_, rfl⟩, .inr ⟨_, by rw [← HD.out]; exact HP.out, hJx3⟩⟩
        · have i2 : ¬ (k : Int) < nb := by omega
          have HD : Hid (dif z y nb (k + 1) = dif z y nb k) := dif_miss z y nb k (fun hh => hlb hh.1)
          clear hB
          gi_wp2
          refine ⟨fun _ h => (by cases h), ?_⟩
          gi_wp2
          go_roundw
          case rel => exact ⟨k + 1, by omega, by go_num, by rw [HD.out]; exact hr.out⟩
          case measure => simp [intOf]; omega
      · obtain rfl : k = na := by omega
        clear hB
        gi_wp2
        go_end0
        exact ⟨⟨_, rfl⟩, .inl ⟨_, rfl, hr.out.2.2.2⟩⟩
end Go.Proofs.Ytcjadneamacilaa.C

/- snap.digits. -/
import Derived.Test.YtcjadneamacilaaG
import Derived.Laws.BytesArg
import Derived.IntWalk
namespace Go.Proofs.Ytcjadneamacilaa.C
open Go.RowKit

/-- How many digits. -/
def nd (n : Nat) : Nat := if h : n < 10 then 1 else nd (n / 10) + 1
termination_by n
decreasing_by omega
theorem nd_lt (n : Nat) (h : n < 10) : nd n = 1 := by rw [nd, dif_pos h]
theorem nd_ge (n : Nat) (h : ¬ n < 10) : nd n = nd (n / 10) + 1 := by rw [nd, dif_neg h]
/-- The digit number i from the end, as a byte. -/
def dgt (n i : Nat) : Int := 48 + ((n / 10 ^ i % 10 : Nat) : Int)
def dgL (n : Nat) : List Int := (List.range (nd n)).map fun i => dgt n (nd n - 1 - i)

structure DG (w wr : World) (n j : Nat) : Prop where
  k : Kept w wr
  c : ∀ o, o < 20 → ∃ v, wr.cell? ⟨w.heap.size, o, none⟩ = some v
  fz : ∀ o, wr.frozen? ⟨w.heap.size, o, none⟩ = false
  d : ∀ i, i < j → wr.cell? ⟨w.heap.size, 19 - i, none⟩ = some (.int .u8 (dgt n i))
  e : nd n = j + nd (n / 10 ^ j)

theorem DG.put {w wr : World} {n j k m : Nat} (h : DG w wr n j) (hjk : j + k = 19) (hm : m = n / 10 ^ j) :
    Kept w (wr.setCell ⟨w.heap.size, k, none⟩ (.int .u8 (48 + (m : Int) % 10))) ∧ (∀ o, o < 20 → ∃ v, (wr.setCell ⟨w.heap.size, k, none⟩ (.int .u8 (48 + (m : Int) % 10))).cell? ⟨w.heap.size, o, none⟩ = some v) ∧
      (∀ i, i < j + 1 → (wr.setCell ⟨w.heap.size, k, none⟩ (.int .u8 (48 + (m : Int) % 10))).cell? ⟨w.heap.size, 19 - i, none⟩ = some (.int .u8 (dgt n i))) := by
  refine ⟨h.k.setCell (by simp) _, fun o ho => ?_, fun i hi => ?_⟩
  · obtain ⟨v, hv⟩ := h.c o ho
    by_cases e : o = k
    · subst e; exact ⟨_, World.cell?_setCell_same _ _ _ hv⟩
    · exact ⟨v, by rw [World.cell?_setCell_other _ _ _ _ (addr_ne (.inr (fun h => e h.symm)))]; exact hv⟩
  · by_cases e : i = j
    · subst e
      obtain ⟨v, hv⟩ := h.c k (by omega)
      rw [show 19 - i = k from by omega, World.cell?_setCell_same _ _ _ hv]
      unfold dgt
      rw [← hm]
      simp
    · rw [World.cell?_setCell_other _ _ _ _ (addr_ne (.inr (by omega)))]
      exact h.d i (by omega)
theorem DG.next {w wr : World} {n j k m : Nat} (h : DG w wr n j) (hjk : j + k = 19) (hm : m = n / 10 ^ j) (h10 : 10 ≤ m) :
    DG w (wr.setCell ⟨w.heap.size, k, none⟩ (.int .u8 (48 + (m : Int) % 10))) n (j + 1) := by
  obtain ⟨a, b, c⟩ := h.put hjk hm
  refine ⟨a, b, fun o => by rw [World.frozen?_setCell]; exact h.fz o, c, ?_⟩
  have he := h.e
  rw [← hm, nd_ge m (by omega), hm, Nat.div_div_eq_div_mul, ← Nat.pow_succ] at he
  have hs : n / 10 ^ j.succ = n / 10 ^ (j + 1) := rfl
  rw [hs] at he
  rw [he]; omega
theorem dgL_len (n : Nat) : (dgL n).length = nd n := by simp [dgL]

set_option maxRecDepth 100000 in
set_option maxHeartbeats 2000000 in
theorem digits_c (w : World) (n : Nat) (hn : n < 18446744073709551616) :
    Calls Try.prog 75 #[.int .u64 n] w fun e w' => e = .returned (.string (strOfNums (dgL n))) ∧ Kept w w' := by
  go_enter Try.func75, Try.ntmps75
  go_wp2_with fail
  go_loopw [0, 4] (fun a b wr => ∃ j k m : Nat, j + k = 19 ∧ m = n / 10 ^ j ∧ a = .int .u64 m ∧ b = .int .i64 ((k : Int) + 1) ∧ Hid (DG w wr n j)) (fun _ b _ => (intOf b).toNat)
  case atStart =>
    refine ⟨0, 19, n, rfl, by simp, rfl, rfl, (Kept.refl _).alloc _, fun o ho => ?_, fun o => ?_, fun i hi => absurd hi (by omega), by simp⟩
    · rw [World.cell?_alloc_new]
      exact ⟨_, Array.getElem?_eq_getElem (by simpa using ho)⟩
    · rw [frozen?_alloc_cells]; simp [World.frozen?]
  case round =>
    obtain ⟨j, k, m, hjk, hm, rfl, rfl, hr⟩ := hrel
    have hmn : m ≤ n := by rw [hm]; exact Nat.div_le_self _ _
    have HM := Lib.hid hm
    obtain ⟨v, hv⟩ := hr.out.c k (by omega)
    have fz := hr.out.fz k
    have g1 : (0 : Int) ≤ m := by omega
    have g2 : (m : Int) ≤ 18446744073709551615 := by omega
    have g3 : (k : Int) < 20 := by omega
    have g4 : (0 : Int) ≤ (m : Int) % 10 := by omega
    have g5 : (m : Int) % 10 < 10 := by omega
    have g7 : (k : Int) ≤ 20 := by omega
    have g8 : (0 : Int) ≤ (k : Int) := by omega
    clear hm
    by_cases h10 : m < 10
    · have b0 : ((m : Int) / 10 == 0) = true := by simp; omega
      obtain ⟨hk1, hc1, hd1⟩ := hr.out.put hjk HM.out
      have hnd : nd n = j + 1 := by have := hr.out.e; rw [← HM.out, nd_lt m h10] at this; exact this
      have hcv := run_convert_bytes_arg (P := Try.prog) (wr.setCell ⟨w.heap.size, k, none⟩ (.int .u8 (48 + (m : Int) % 10))) 24 5 Try.underlying24 Try.underlying5 w.heap.size k (20 - k) (20 - k) (dgL n) (by rw [dgL_len, hnd]; omega) (fun i hi => by
        have h1 := hd1 (j - i) (by omega)
        rw [show 19 - (j - i) = k + i from by omega] at h1
        rw [h1]
        have hlt : i < (dgL n).length := by rw [dgL_len, hnd]; omega
        rw [List.getD_eq_getElem?_getD, List.getElem?_eq_getElem hlt]
        simp [dgL, hnd]) 9 Try.underlying9
      have HK := Lib.hid hk1
      clear hk1 hc1 hd1 hnd HM h10
      have hkk : ¬ (k : Int) = 20 := by omega
      have hkn : ¬ k = 20 := by omega
      go_wp2_with fail
      go_ret
      exact ⟨rfl, HK.out⟩
    · have b0 : ((m : Int) / 10 == 0) = false := by simp; omega
      have HN := Lib.hid (hr.out.next hjk HM.out (by omega))
      have hk1 : 1 ≤ k := by
        rcases Nat.eq_zero_or_pos k with h | h
        · exfalso
          have hj : j = 19 := by omega
          have hm := HM.out
          rw [hj] at hm
          have : m < 10 := by rw [hm]; exact Nat.div_lt_of_lt_mul (by omega)
          omega
        · exact h
      have HMn : Hid (m / 10 = n / 10 ^ (j + 1)) := by show _ = _; rw [HM.out, Nat.div_div_eq_div_mul, ← Nat.pow_succ]
      clear h10
      go_wp2_with fail
      go_roundw
      case rel => exact ⟨j + 1, k - 1, m / 10, by omega, HMn.out, by simp, by congr 1; omega, HN.out⟩
      case measure => simp [intOf]
theorem nd_le (k n : Nat) (hk : 0 < k) (h : n < 10 ^ k) : nd n ≤ k := by
  induction k generalizing n with
  | zero => omega
  | succ k ih =>
    by_cases h1 : n < 10
    · rw [nd_lt n h1]; omega
    · rw [nd_ge n h1]
      have hk0 : 0 < k := by
        rcases Nat.eq_zero_or_pos k with e | e
        · subst e; omega
        · exact e
      have := ih (n / 10) hk0 (by rw [Nat.pow_succ] at h; omega)
      omega
def dgB (n : Nat) : ByteArray := strOfNums (dgL n)
theorem dgB_len (n : Nat) (h : n < 18446744073709551616) : (dgB n).data.toList.length ≤ 20 := by
  have := nd_le 20 n (by omega) (by omega)
  simp [dgB, strOfNums, dgL_len]
  exact this
end Go.Proofs.Ytcjadneamacilaa.C

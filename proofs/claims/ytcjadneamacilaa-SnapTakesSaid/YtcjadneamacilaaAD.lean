/- palanquinref39: digits. -/
import Derived.Test.YtcjadneamacilaaX
namespace Go.Proofs.Ytcjadneamacilaa.C
open Go.RowKit

theorem dgt_succ (n i : Nat) : dgt n (i + 1) = dgt (n / 10) i := by
  unfold dgt
  rw [Nat.div_div_eq_div_mul, Nat.pow_succ, Nat.mul_comm]
theorem dgL_small (n : Nat) (h : n < 10) : dgL n = [dgt n 0] := by
  unfold dgL; rw [nd_lt n h]; rfl
theorem dgL_big (n : Nat) (h : ¬ n < 10) : dgL n = dgL (n / 10) ++ [dgt n 0] := by
  unfold dgL
  rw [nd_ge n h, List.range_succ, List.map_append]
  congr 1
  · refine List.map_congr_left fun i hi => ?_
    have := List.mem_range.1 hi
    rw [show nd (n / 10) + 1 - 1 - i = (nd (n / 10) - 1 - i) + 1 from by omega, dgt_succ]
  · simp
theorem sn_append (a b : List Int) : strOfNums (a ++ b) = strOfNums a ++ strOfNums b := by
  apply ByteArray.ext
  simp [strOfNums]

set_option maxRecDepth 100000 in
set_option maxHeartbeats 2000000 in
theorem rdig_c (n : Nat) : ∀ (w : World), n < 18446744073709551616 →
    Calls Try.prog 77 #[.int .u64 n] w fun e w' => e = .returned (.string (strOfNums (dgL n))) ∧ Kept w w' := by
  induction n using Nat.strongRecOn with
  | _ n ih =>
    intro w hn
    have g4 : (0 : Int) ≤ (n : Int) % 10 := by omega
    have g5 : (n : Int) % 10 < 10 := by omega
    have g1 : (0 : Int) ≤ n := by omega
    have g2 : (n : Int) ≤ 18446744073709551615 := by omega
    have hcv := run_convert_bytes_arg (P := Try.prog) (w.alloc (.cells #[.int .u8 (48 + (n : Int) % 10)] 5)) 24 5 Try.underlying24 Try.underlying5 w.heap.size 0 1 1 [dgt n 0] rfl (fun i hi => by
      obtain rfl : i = 0 := by omega
      simp [dgt]) 9 Try.underlying9
    have K1 : Hid (Kept w (w.alloc (.cells #[.int .u8 (48 + (n : Int) % 10)] 5))) := (Kept.refl w).alloc _
    by_cases h10 : n < 10
    · have b0 : ¬ (10 : Int) ≤ n := by omega
      go_enter Try.func77, Try.ntmps77
      go_wp2_with fail
      go_ret
      exact ⟨by rw [dgL_small n h10]; rfl, K1.out⟩
    · have b0 : (10 : Int) ≤ n := by omega
      have HIH := Lib.hid (ih (n / 10) (by omega))
      clear ih
      go_enter Try.func77, Try.ntmps77
      go_wp2_with fail
      refine (HIH.out _ (by omega)).mono ?_
      rintro e w1 ⟨rfl, hk⟩
      have K2 := Lib.hid (K1.out.trans hk)
      clear hk hcv
      have HS : Hid (strOfNums (dgL n) = strOfNums (dgL (n / 10)) ++ strOfNums [dgt n 0]) := by show _ = _; rw [dgL_big n h10, sn_append]
      have hs := dgB_size (n / 10) (by omega)
      have hs1 : (strOfNums [dgt n 0]).size = 1 := strOfNums_size _
      generalize strOfNums (dgL (n / 10)) = D1 at hs HS ⊢
      generalize strOfNums [dgt n 0] = D2 at hs1 HS ⊢
      have hsz : D1.size + D2.size ≤ 9223372036854775807 := by omega
      go_wp2_with fail
      go_ret
      exact ⟨by rw [HS.out]; rfl, K2.out⟩
end Go.Proofs.Ytcjadneamacilaa.C

/- The walk of LiveBeside: who is killed changes nothing of the others who live. -/
import Derived.Test.YtnmkejdepmijeaaF
namespace Go.Proofs.Ytnmkejdepmijeaa.C
open Go.RowKit

set_option maxRecDepth 100000 in
set_option maxHeartbeats 1000000 in
theorem Beside_w (n k now : Int) (wn : (Lit.int .u8 n).wf = true) (wk : (Lit.int .u8 k).wf = true) (_ : (Lit.int .i64 now).wf = true) (w : World) :
    Calls Try.prog 7 #[.int .u8 n, .int .u8 k, .int .i64 now] w fun e w' => e = .returned (.bool true) ∧ Kept w w' := by
  obtain ⟨hk0, hk1⟩ := bd_u8 wk
  obtain ⟨hn0, hn1⟩ := bd_u8 wn
  clear wk wn
  obtain ⟨m, hm, hm1, hm64⟩ : ∃ m : Nat, 1 + n % 64 = m ∧ 1 ≤ m ∧ m ≤ 64 := ⟨(1 + n % 64).toNat, by omega, by omega, by omega⟩
  obtain ⟨q, hq, hqm⟩ : ∃ q : Nat, k % m = q ∧ q < m := ⟨(k % m).toNat, by have := Int.emod_nonneg k (b := (m : Int)) (by omega); omega, by have := Int.emod_nonneg k (b := (m : Int)) (by omega); have := Int.emod_lt_of_pos k (b := (m : Int)) (by omega); omega⟩
  have HM := Lib.hid hm
  have HQ := Lib.hid hq
  clear hm hq
  go_enter Try.func7, Try.ntmps7
  go_wp2_with fail
  refine (new_c _).mono ?_
  rintro e w1 ⟨rfl, hT, hk⟩
  rw [onTo_zero] at hT
  have HS : Hid (St w (w.heap.size + 1) w.heap.size (onTo 0) w1) := ⟨hT, hk, Nat.le_refl _⟩
  clear hT hk
  go_wp2_with fail
  rw [HM.out]
  go_loopw [9] (fun i wr => ∃ j : Nat, j ≤ m ∧ i = .int .i64 j ∧ Hid (St w (w.heap.size + 1) w.heap.size (onTo j) wr)) (fun i _ => m - (intOf i).toNat)
  case atStart => exact ⟨0, by omega, rfl, HS⟩
  case round =>
    obtain ⟨j, hj, rfl, hs⟩ := hrel
    clear HS
    by_cases hlt : j < m
    · obtain ⟨e0, e1, e2, e3⟩ := onTo_take j (by omega)
      go_wp2_with fail
      refine (take_c _ _ _ _ _ hs.out.1).mono ?_
      rw [e0, e1, e2, e3]
      rintro e w2 ⟨rfl, hT2, hg⟩
      have hs2 := Lib.hid (hs.out.step hT2 hg)
      clear hT2 hg e0 e1 e2 e3
      go_wp2_with fail
      go_roundw
      case rel => exact ⟨j + 1, by omega, by go_num, hs2⟩
      case measure => simp [intOf]; omega
    · obtain rfl : j = m := by omega
      go_wp2_with fail
      rw [HQ.out]
      -- three kills
      obtain ⟨e0, e1⟩ := onTo_kill j q hm64 hqm now
      refine (kill_c _ _ _ _ _ _ _ hs.out.1).mono ?_
      rw [e0, e1]
      rintro e w3 ⟨rfl, hT2, hg⟩
      have hs3 := Lib.hid (hs.out.step hT2 hg)
      clear hT2 hg hs e0 e1
      go_wp2_with fail
      obtain ⟨e0, e1⟩ := butOne_kill j q hm64 hqm now 0 now
      refine (kill_c _ _ _ _ _ _ _ hs3.out.1).mono ?_
      rw [e0, e1]
      rintro e w4 ⟨rfl, hT2, hg⟩
      have hs4 := Lib.hid (hs3.out.step hT2 hg)
      clear hT2 hg hs3 e0 e1
      go_wp2_with fail
      obtain ⟨e0, e1⟩ := butOne_kill j q hm64 hqm now 1 now
      refine (kill_c _ _ _ _ _ _ _ hs4.out.1).mono ?_
      rw [e0, e1]
      rintro e w5 ⟨rfl, hT2, hg⟩
      have hs5 := Lib.hid (hs4.out.step hT2 hg)
      clear hT2 hg hs4 e0 e1
      go_wp2_with fail
      go_loopw [11] (fun i wr => ∃ l : Nat, l ≤ j ∧ i = .int .i64 l ∧ Hid (St w (w.heap.size + 1) w.heap.size (butOne j q now) wr)) (fun i _ => j - (intOf i).toNat)
      case atStart => exact ⟨0, by omega, rfl, hs5⟩
      case round =>
        obtain ⟨l, hl, rfl, hs6⟩ := hrel
        clear hs5
        by_cases hlt2 : l < j
        · obtain ⟨v0, v1⟩ := butOne_valid j q now l hm64 hlt2
          go_wp2_with fail
          refine (valid_c _ _ _ _ _ _ hs6.out.1).mono ?_
          rw [v0]
          rintro e w7 ⟨rfl, rfl⟩
          clear v0
          have hb : ((l : Int) != (q : Int)) = !(l == q) := by
            by_cases e : l = q
            · simp [e]
            · unfold bne; rw [beq_eq_false_iff_ne.2 e, beq_eq_false_iff_ne.2 (show (l : Int) ≠ (q : Int) from by omega)]
          have HV := Lib.hid v1
          clear v1
          cases hlq : (l == q)
          all_goals
            rw [hlq] at hb
            clear hlq
            go_wp2_with fail
            refine (valid_c _ _ _ _ _ _ hs6.out.1).mono ?_
            rw [HV.out]
            rintro e w7 ⟨rfl, rfl⟩
            go_wp2_with fail
            go_roundw
            case rel => exact ⟨l + 1, by omega, by go_num, hs6⟩
            case measure => simp [intOf]; omega
        · obtain rfl : l = j := by omega
          go_wp2_with fail
          refine (count_c _ _ _ _ hs6.out.1).mono ?_
          rw [butOne_count _ _ _ hm64 hqm, show ((l - 1 : Nat) : Int) = (l : Int) - 1 from by omega]
          rintro e w8 ⟨rfl, hk8⟩
          have hs8 := Lib.hid (hs6.out.kept hk8)
          clear hk8 hs6
          go_wp2_with fail
          refine (awake_c _).mono ?_
          rintro e w9 ⟨rfl, hk9⟩
          have hs9 := Lib.hid (hs8.out.kept hk9)
          clear hk9 hs8
          go_wp2_with fail
          go_ret
          exact ⟨rfl, hs9.out.2.1⟩
end Go.Proofs.Ytnmkejdepmijeaa.C

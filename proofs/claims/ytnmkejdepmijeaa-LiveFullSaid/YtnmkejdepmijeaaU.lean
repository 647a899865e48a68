/- The walk of LiveFull: as many as MaxLive live at once, and no more. -/
import Derived.Test.YtnmkejdepmijeaaF
namespace Go.Proofs.Ytnmkejdepmijeaa.C
open Go.RowKit

set_option maxRecDepth 100000 in
set_option maxHeartbeats 1000000 in
theorem Full_w (k now : Int) (wk : (Lit.int .u8 k).wf = true) (wn : (Lit.int .u8 now).wf = true) (w : World) :
    Calls Try.prog 6 #[.int .u8 k, .int .u8 now] w fun e w' => e = .returned (.bool true) ∧ Kept w w' := by
  obtain ⟨hk0, hk1⟩ := bd_u8 wk
  obtain ⟨hn0, hn1⟩ := bd_u8 wn
  clear wk wn
  obtain ⟨q, hq, hq64⟩ : ∃ q : Nat, k % 64 = q ∧ q < 64 := ⟨(k % 64).toNat, by omega, by omega⟩
  go_enter Try.func6, Try.ntmps6
  go_wp2_with fail
  refine (new_c _).mono ?_
  rintro e w1 ⟨rfl, hT, hk⟩
  rw [onTo_zero] at hT
  have HS : Hid (St w (w.heap.size + 1) w.heap.size (onTo 0) w1) := ⟨hT, hk, Nat.le_refl _⟩
  clear hT hk
  go_wp2_with fail
  go_loopw [6, 7, 8, 9] (fun i _ _ _ wr => ∃ j : Nat, j ≤ 64 ∧ i = .int .i64 j ∧ Hid (St w (w.heap.size + 1) w.heap.size (onTo j) wr)) (fun i _ _ _ _ => 64 - (intOf i).toNat)
  case atStart => exact ⟨0, by omega, rfl, HS⟩
  case round =>
    obtain ⟨j, hj, rfl, hs⟩ := hrel
    clear HS
    by_cases hlt : j < 64
    · obtain ⟨e0, e1, e2, e3⟩ := onTo_take j hlt
      have E := Lib.hid (And.intro e0 (And.intro e1 (And.intro e2 e3)))
      clear e0 e1 e2 e3
      go_wp2_with fail
      refine (take_c _ _ _ _ _ hs.out.1).mono ?_
      rw [E.out.1, E.out.2.1, E.out.2.2.1, E.out.2.2.2]
      rintro e w2 ⟨rfl, hT2, hg⟩
      have hs2 := Lib.hid (hs.out.step hT2 hg)
      clear hT2 hg
      go_wp2_with fail
      go_roundw
      case rel => exact ⟨j + 1, by omega, by go_num, hs2⟩
      case measure => simp [intOf]; omega
    · obtain rfl : j = 64 := by omega
      go_wp2_with fail
      -- t.Take(0)
      obtain ⟨e0, e1, e2, e3⟩ := onTo_full 0
      refine (take_c _ _ _ _ _ hs.out.1).mono ?_
      rw [e0, e1, e2, e3]
      rintro e w2 ⟨rfl, hT2, hg⟩
      have hs2 := Lib.hid (hs.out.step hT2 hg)
      clear hT2 hg hs e0 e1 e2 e3
      go_wp2_with fail
      -- t.Kill(id, 0, now)
      obtain ⟨e0, e1⟩ := onTo_kill 64 q (by omega) hq64 now
      refine (kill_c _ _ _ _ _ _ _ hs2.out.1).mono ?_
      rw [e0, e1]
      rintro e w3 ⟨rfl, hT2, hg⟩
      have hs3 := Lib.hid (hs2.out.step hT2 hg)
      clear hT2 hg hs2 e0 e1
      go_wp2_with fail
      -- t.Take(now)
      obtain ⟨e0, e1, e2, e3⟩ := butOne_full q now now (by omega)
      refine (take_c _ _ _ _ _ hs3.out.1).mono ?_
      rw [e0, e1, e2, e3]
      rintro e w4 ⟨rfl, hT2, hg⟩
      have hs4 := Lib.hid (hs3.out.step hT2 hg)
      clear hT2 hg hs3 e0 e1 e2 e3
      go_wp2_with fail
      -- t.Take(now + 1)
      obtain ⟨e0, e1, e2, e3⟩ := butOne_take q hq64 now (now + 1) (by omega)
      refine (take_c _ _ _ _ _ hs4.out.1).mono ?_
      rw [e0, e1, e2, e3]
      rintro e w5 ⟨rfl, hT2, hg⟩
      have hs5 := Lib.hid (hs4.out.step hT2 hg)
      clear hT2 hg hs4 e0 e1 e2 e3
      go_wp2_with fail
      -- t.Count()
      refine (count_c _ _ _ _ hs5.out.1).mono ?_
      rw [again_count]
      rintro e w6 ⟨rfl, hk6⟩
      have hs6 := Lib.hid (hs5.out.kept hk6)
      clear hk6 hs5
      go_wp2_with fail
      refine (awake_c _).mono ?_
      rintro e w7 ⟨rfl, hk7⟩
      have hs7 := Lib.hid (hs6.out.kept hk7)
      clear hk7 hs6
      go_wp2_with fail
      go_ret
      exact ⟨rfl, hs7.out.2.1⟩
end Go.Proofs.Ytnmkejdepmijeaa.C

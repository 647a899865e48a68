/- The walk of TypFull: a frame is needed MaxRefs times at most. -/
import Derived.Test.YtcmflbjaloandaaT1
namespace Go.Proofs.Ytcmflbjaloandaa.C
open Go.RowKit

/-- What is true of the table of one frame. -/
def At (w : World) (tb sb cap : Nat) (x : Fm) (wr : World) : Prop := Tb wr tb sb 1 cap (one x) ∧ Kept w wr ∧ w.heap.size ≤ sb
theorem At.on {w wr w' : World} {tb sb cap : Nat} {x y : Fm} (h : At w tb sb cap x wr) (h2 : Tb w' tb sb 1 cap (one y)) (g : wr.grownBy w' (some sb)) : At w tb sb cap y w' := ⟨h2, h.2.1.on h.2.2 g, h.2.2⟩
theorem At.kept {w wr w' : World} {tb sb cap : Nat} {x : Fm} (h : At w tb sb cap x wr) (k : Kept wr w') : At w tb sb cap x w' := ⟨h.1.kept k, h.2.1.trans k, h.2.2⟩

def refs (j : Nat) : Fm := ⟨2, if j ≤ 1000 then j else 1000, -1, 0⟩
theorem refs_ok (j : Nat) (h : j < 1000) : rfOk (refs j) = 0 ∧ rfX (refs j) = refs (j + 1) := by
  have e : rfOk (refs j) = 0 := by unfold rfOk refs; rw [if_neg (show ¬ (2 : Int) = 0 by decide), if_neg (by simp only []; rw [if_pos (by omega)]; omega)]
  refine ⟨e, ?_⟩
  unfold rfX; rw [if_pos e]; unfold refs
  rw [if_pos (show j ≤ 1000 by omega), if_pos (show j + 1 ≤ 1000 by omega)]; simp
theorem refs_no (j : Nat) (h : 1000 ≤ j) : rfOk (refs j) = 2 ∧ rfX (refs j) = refs (j + 1) := by
  have h1 : (if j ≤ 1000 then (j : Int) else 1000) = 1000 := by split <;> omega
  have e : rfOk (refs j) = 2 := by unfold rfOk refs; rw [if_neg (show ¬ (2 : Int) = 0 by decide), if_pos (by simp only []; omega)]
  refine ⟨e, ?_⟩
  unfold rfX; rw [if_neg (by rw [e]; decide)]; unfold refs
  rw [h1, if_neg (show ¬ j + 1 ≤ 1000 by omega)]

def less (K j : Nat) : Fm := ⟨2, (K : Int) - j, if 0 < K ∧ j = K then 7 else -1, 0⟩
theorem refs_less (n K : Nat) (h : (n ≤ 1000 ∧ K = n) ∨ (1000 < n ∧ K = 1000)) : refs n = less K 0 := by
  unfold refs less
  rcases h with ⟨h, rfl⟩ | ⟨h, rfl⟩
  · rw [if_pos h, if_neg (by omega)]; simp
  · rw [if_neg (by omega), if_neg (by omega)]; simp
theorem less_ut (K j : Nat) (h : j < K) : utOk (less K j) = 10 ∧ utX (less K j) 1 true = less K j := by
  have e : utOk (less K j) = 10 := by unfold utOk less; rw [if_neg (show ¬ (2 : Int) = 0 by decide), if_pos (by simp only []; omega)]
  exact ⟨e, by unfold utX; rw [if_neg (by rw [e]; decide)]⟩
theorem less_ur (K j : Nat) (h : j < K) : urOk (less K j) = 0 ∧ urX (less K j) 7 = less K (j + 1) := by
  have e : urOk (less K j) = 0 := by unfold urOk less; rw [if_neg (by simp only []; omega)]
  refine ⟨e, ?_⟩
  unfold urX; rw [if_pos e]; unfold less
  simp only []
  by_cases h1 : j + 1 = K
  · rw [if_pos (show (K : Int) - j = 1 by omega), if_neg (show ¬ (0 < K ∧ j = K) by omega), if_pos (show 0 < K ∧ j + 1 = K by omega)]
    simp; omega
  · rw [if_neg (show ¬ (K : Int) - j = 1 by omega), if_neg (show ¬ (0 < K ∧ j = K) by omega), if_neg (show ¬ (0 < K ∧ j + 1 = K) by omega)]
    simp; omega
theorem less_end0 : less 0 0 = ⟨2, 0, -1, 0⟩ := rfl
theorem less_end (K : Nat) (h : 0 < K) : less K K = ⟨2, 0, 7, 0⟩ := by unfold less; rw [if_pos ⟨h, rfl⟩]; simp

set_option maxRecDepth 100000 in
set_option maxHeartbeats 2000000 in
theorem Full_w (more : Int) (wm : (Lit.int .u16 more).wf = true) (w : World) :
    Calls Try.prog 6 #[.int .u16 more] w fun e w' => e = .returned (.bool true) ∧ Kept w w' := by
  obtain ⟨hm0, hm1⟩ := bd_u16 wm
  clear wm
  obtain ⟨n, hn, hn64⟩ : ∃ n : Nat, more % 1100 = n ∧ n < 1100 := ⟨(more % 1100).toNat, by omega, by omega⟩
  go_enter Try.func6, Try.ntmps6
  go_wp2_with fail
  refine (new1 _).mono ?_
  rintro e w1 ⟨sb, cap, rfl, hT, hsb, hk⟩
  have hs0 : Hid (At w w.heap.size sb cap fresh w1) := ⟨hT, hk, hsb⟩
  clear hT hk
  go_wp2_with fail
  refine (retype1 hs0.out.1 2 true).mono ?_
  rw [show rtOk fresh 2 true = 0 from rfl]
  rintro e w2 ⟨rfl, hT2, hg⟩
  rw [show rtX fresh 2 true = refs 0 from rfl] at hT2
  have hs1 := Lib.hid (hs0.out.on hT2 hg)
  clear hT2 hg hs0
  go_wp2_with fail
  clear hn
  go_loopw [6] (fun i wr => ∃ j : Nat, j ≤ n ∧ i = .int .i64 j ∧ Hid (At w w.heap.size sb cap (refs j) wr)) (fun i _ => n - (intOf i).toNat)
  case atStart => exact ⟨0, by omega, rfl, hs1⟩
  case round =>
    obtain ⟨j, hj, rfl, hs⟩ := hrel
    clear hs1
    by_cases hlt : j < n
    · by_cases hlt2 : j < 1000
      · have E := Lib.hid (refs_ok j hlt2)
        go_wp2_with fail
        refine (ref1 hs.out.1).mono ?_
        rw [E.out.1, E.out.2]
        rintro e w3 ⟨rfl, hT2, hg⟩
        have hs2 := Lib.hid (hs.out.on hT2 hg)
        clear hT2 hg
        go_wp2_with fail
        go_roundw
        case rel => first | exact ⟨j + 1, by omega, by go_num, hs2⟩ | ((repeat apply Exists.intro); exact ⟨⟨j + 1, by omega, by go_num, hs2⟩, rfl⟩)
        case measure => simp [intOf]; omega
      · have E := Lib.hid (refs_no j (by omega))
        go_wp2_with fail
        refine (ref1 hs.out.1).mono ?_
        rw [E.out.1, E.out.2]
        rintro e w3 ⟨rfl, hT2, hg⟩
        have hs2 := Lib.hid (hs.out.on hT2 hg)
        clear hT2 hg
        go_wp2_with fail
        go_roundw
        case rel => first | exact ⟨j + 1, by omega, by go_num, hs2⟩ | ((repeat apply Exists.intro); exact ⟨⟨j + 1, by omega, by go_num, hs2⟩, rfl⟩)
        case measure => simp [intOf]; omega
    · obtain rfl : j = n := by omega
      clear hlt
      by_cases hle : j ≤ 1000
      · rw [refs_less j j (.inl ⟨hle, rfl⟩)] at hs
        have hs2 := hs
        clear hs
        by_cases hz : j = 0
        · subst hz
          rw [less_end0] at hs2
          have hs4 := hs2
          clear hs2
          go_wp2_with fail
          refine wp_loop_rounds 1 ?_
          rw [rounds_succ]
          go_wp2_with fail
          refine (count1 hs4.out.1).mono ?_
          rintro e w6 ⟨rfl, hk6⟩
          have hs5 := Lib.hid (hs4.out.kept hk6)
          clear hk6 hs4
          go_wp2_with fail
          refine (untype1 hs5.out.1 1 true).mono ?_
          rw [show utOk ⟨2, 0, -1, 0⟩ = 0 from rfl]
          rintro e w7 ⟨rfl, hT2, hg⟩
          rw [show utX ⟨2, 0, -1, 0⟩ 1 true = ⟨0, 0, 1, 3⟩ from rfl] at hT2
          have hs6 := Lib.hid (hs5.out.on hT2 hg)
          clear hT2 hg hs5
          go_wp2_with fail
          refine (was1 hs6.out.1).mono ?_
          rintro e w8 ⟨rfl, hk6⟩
          have hs7 := Lib.hid (hs6.out.kept hk6)
          clear hk6 hs6
          go_wp2_with fail
          refine (freed1 hs7.out.1).mono ?_
          rintro e w9 ⟨rfl, hk6⟩
          have hs8 := Lib.hid (hs7.out.kept hk6)
          clear hk6 hs7
          go_wp2_with fail
          refine (awake_c _).mono ?_
          rintro e w10 ⟨rfl, hk6⟩
          have hs9 := Lib.hid (hs8.out.kept hk6)
          clear hk6 hs8
          go_wp2_with fail
          go_ret
          exact ⟨rfl, hs9.out.2.1⟩
        · have hpos : 0 < j := by omega
          clear hz
          go_wp2_with fail
          go_loopw [9] (fun i wr => ∃ q : Nat, q ≤ j ∧ i = .int .i64 q ∧ Hid (At w w.heap.size sb cap (less j q) wr)) (fun i _ => j - (intOf i).toNat)
          case atStart => exact ⟨0, by omega, rfl, hs2⟩
          case round =>
            obtain ⟨q, hq, rfl, hs3⟩ := hrel
            clear hs2
            by_cases hlt : q < j
            · have E1 := Lib.hid (less_ut j q hlt)
              have E2 := Lib.hid (less_ur j q hlt)
              go_wp2_with fail
              refine (untype1 hs3.out.1 1 true).mono ?_
              rw [E1.out.1, E1.out.2]
              rintro e w4 ⟨rfl, hT2, hg⟩
              have hs4 := Lib.hid (hs3.out.on hT2 hg)
              clear hT2 hg
              go_wp2_with fail
              refine (unref1 hs4.out.1 7).mono ?_
              rw [E2.out.1, E2.out.2]
              rintro e w5 ⟨rfl, hT2, hg⟩
              have hs5 := Lib.hid (hs4.out.on hT2 hg)
              clear hT2 hg
              go_wp2_with fail
              go_roundw
              case rel => first | exact ⟨q + 1, by omega, by go_num, hs5⟩ | ((repeat apply Exists.intro); exact ⟨⟨q + 1, by omega, by go_num, hs5⟩, rfl⟩)
              case measure => simp [intOf]; omega
            · have hqe : q = j := by omega
              rw [hqe, less_end j (by omega)] at hs3
              have hs4 := hs3
              clear hs3
              go_wp2_with fail
              refine (count1 hs4.out.1).mono ?_
              rintro e w6 ⟨rfl, hk6⟩
              have hs5 := Lib.hid (hs4.out.kept hk6)
              clear hk6 hs4
              go_wp2_with fail
              refine (untype1 hs5.out.1 1 true).mono ?_
              rw [show utOk ⟨2, 0, 7, 0⟩ = 0 from rfl]
              rintro e w7 ⟨rfl, hT2, hg⟩
              rw [show utX ⟨2, 0, 7, 0⟩ 1 true = ⟨0, 0, 7, 3⟩ from rfl] at hT2
              have hs6 := Lib.hid (hs5.out.on hT2 hg)
              clear hT2 hg hs5
              go_wp2_with fail
              refine (was1 hs6.out.1).mono ?_
              rintro e w8 ⟨rfl, hk6⟩
              have hs7 := Lib.hid (hs6.out.kept hk6)
              clear hk6 hs6
              go_wp2_with fail
              refine (freed1 hs7.out.1).mono ?_
              rintro e w9 ⟨rfl, hk6⟩
              have hs8 := Lib.hid (hs7.out.kept hk6)
              clear hk6 hs7
              go_wp2_with fail
              refine (awake_c _).mono ?_
              rintro e w10 ⟨rfl, hk6⟩
              have hs9 := Lib.hid (hs8.out.kept hk6)
              clear hk6 hs8
              go_wp2_with fail
              go_ret
              exact ⟨rfl, hs9.out.2.1⟩
      · rw [refs_less j 1000 (.inr ⟨by omega, rfl⟩)] at hs
        have hs2 := hs
        clear hs
        go_wp2_with fail
        go_loopw [9] (fun i wr => ∃ q : Nat, q ≤ 1000 ∧ i = .int .i64 q ∧ Hid (At w w.heap.size sb cap (less 1000 q) wr)) (fun i _ => 1000 - (intOf i).toNat)
        case atStart => exact ⟨0, by omega, rfl, hs2⟩
        case round =>
          obtain ⟨q, hq, rfl, hs3⟩ := hrel
          clear hs2
          by_cases hlt : q < 1000
          · have E1 := Lib.hid (less_ut 1000 q hlt)
            have E2 := Lib.hid (less_ur 1000 q hlt)
            go_wp2_with fail
            refine (untype1 hs3.out.1 1 true).mono ?_
            rw [E1.out.1, E1.out.2]
            rintro e w4 ⟨rfl, hT2, hg⟩
            have hs4 := Lib.hid (hs3.out.on hT2 hg)
            clear hT2 hg
            go_wp2_with fail
            refine (unref1 hs4.out.1 7).mono ?_
            rw [E2.out.1, E2.out.2]
            rintro e w5 ⟨rfl, hT2, hg⟩
            have hs5 := Lib.hid (hs4.out.on hT2 hg)
            clear hT2 hg
            go_wp2_with fail
            go_roundw
            case rel => first | exact ⟨q + 1, by omega, by go_num, hs5⟩ | ((repeat apply Exists.intro); exact ⟨⟨q + 1, by omega, by go_num, hs5⟩, rfl⟩)
            case measure => simp [intOf]; omega
          · have hqe : q = 1000 := by omega
            rw [hqe, less_end 1000 (by omega)] at hs3
            have hs4 := hs3
            clear hs3
            go_wp2_with fail
            refine (count1 hs4.out.1).mono ?_
            rintro e w6 ⟨rfl, hk6⟩
            have hs5 := Lib.hid (hs4.out.kept hk6)
            clear hk6 hs4
            go_wp2_with fail
            refine (untype1 hs5.out.1 1 true).mono ?_
            rw [show utOk ⟨2, 0, 7, 0⟩ = 0 from rfl]
            rintro e w7 ⟨rfl, hT2, hg⟩
            rw [show utX ⟨2, 0, 7, 0⟩ 1 true = ⟨0, 0, 7, 3⟩ from rfl] at hT2
            have hs6 := Lib.hid (hs5.out.on hT2 hg)
            clear hT2 hg hs5
            go_wp2_with fail
            refine (was1 hs6.out.1).mono ?_
            rintro e w8 ⟨rfl, hk6⟩
            have hs7 := Lib.hid (hs6.out.kept hk6)
            clear hk6 hs6
            go_wp2_with fail
            refine (freed1 hs7.out.1).mono ?_
            rintro e w9 ⟨rfl, hk6⟩
            have hs8 := Lib.hid (hs7.out.kept hk6)
            clear hk6 hs7
            go_wp2_with fail
            refine (awake_c _).mono ?_
            rintro e w10 ⟨rfl, hk6⟩
            have hs9 := Lib.hid (hs8.out.kept hk6)
            clear hk6 hs8
            go_wp2_with fail
            go_ret
            exact ⟨rfl, hs9.out.2.1⟩
end Go.Proofs.Ytcmflbjaloandaa.C

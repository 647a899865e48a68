/- palanquinref39: words. -/
import Derived.Test.YtcjadneamacilaaR
namespace Go.Proofs.Ytcjadneamacilaa.C
open Go.RowKit Go.Shelf

theorem dif_out (z y : Nat → Int) (nb k n : Nat) (h : nb ≤ k) (hn : k ≤ n) : dif z y nb n = dif z y nb k := by
  induction n with
  | zero => obtain rfl : k = 0 := by omega
            rfl
  | succ n ih =>
    by_cases e : k = n + 1
    · rw [e]
    · rw [dif_miss z y nb n (by omega), ih (by omega)]
theorem dif_zero (z y : Nat → Int) (n : Nat) : dif z y 0 n = [] := dif_out z y 0 0 n (by omega) (by omega)

set_option maxRecDepth 100000 in
set_option maxHeartbeats 2000000 in
theorem rw_c (w : World) (aa ab : Option Addr) (na nb ca cb : Nat) (z y : Nat → Int) (hA : RowI .u64 w aa na z) (hB : RowI .u64 w ab nb y) (h100 : na ≤ 100) :
    Calls Try.prog 64 #[.slice aa na ca, .slice ab nb cb] w fun e w' => ∃ v, e = .returned v ∧ Lst w' v (dif z y nb na) ∧ Kept w w' := by
  have infoE : (Try.prog.info? 3).map (fun i => (i.zero, i.size, i.bytes)) = some (some (.int .i64 0), 1, 8) := by kernel_rfl
  obtain ⟨i3, hi, hz0, hz1, hz2⟩ := info_parts infoE
  clear infoE
  by_cases h0 : 0 < na ∧ 0 < nb
  · obtain ⟨b1, o1, rfl, -⟩ := hA.2 h0.1
    obtain ⟨b2, o2, rfl, -⟩ := hB.2 h0.2
    have HA := Lib.hid hA
    have HB := Lib.hid hB
    clear hA hB h0
    go_enter Try.func64, Try.ntmps64
    go_wp2_with fail
    go_loopw [5, 6] (fun v i wr => ∃ k : Nat, k ≤ na ∧ k ≤ nb ∧ i = .int .i64 k ∧ Hid (Kept w wr ∧ wr.ownsRow w.heap.size 3 1 v (dif z y nb k).length ((dif z y nb k).map (Value.int .i64)))) (fun _ i _ => na - (intOf i).toNat)
    case atStart => exact ⟨0, by omega, by omega, rfl, Kept.refl _, World.ownsRow_nil _ _ _ _⟩
    case round =>
      obtain ⟨k, hk, hk2, rfl, hr⟩ := hrel
      by_cases hlt : k < na
      · by_cases hlt2 : k < nb
        · have i1 : (k : Int) < na := by omega
          have i2 : (k : Int) < nb := by omega
          have c1 := hr.out.1.cell (HA.out.cellI rfl k hlt)
          have c2 := hr.out.1.cell (HB.out.cellI rfl k hlt2)
          by_cases he : z k = y k
          · have be : (z k != y k) = false := by simp [he]
            have HE : Hid (dif z y nb (k + 1) = dif z y nb k) := dif_miss z y nb k (fun hh => hh.2 he)
            clear he
            go_wp2_with fail
            go_quiet (fail)
            go_wp2_with fail
            go_roundw
            case rel => exact ⟨k + 1, by omega, by omega, by go_num, by first | exact hr.out.1.drewN _ | exact hr.out.1.drew | exact hr.out.1, by rw [HE.out]; first | exact own_kept hr.out.2 ((Kept.refl _).drewN _) | exact own_kept hr.out.2 ((Kept.refl _).drew) | exact hr.out.2⟩
            case measure => simp [intOf]; omega
          · have be : (z k != y k) = true := by simp [he]
            have HE : Hid (dif z y nb (k + 1) = dif z y nb k ++ [(k : Int)]) := dif_hit z y nb k hlt2 he
            clear he
            go_wp2_with fail
            go_quiet (fail)
            have KX := Lib.hid (hr.out.1.drewN nq)
            have OX := Lib.hid (own_kept hr.out.2 ((Kept.refl wr).drewN nq))
            generalize hWX : wr.drewN nq = w5 at KX OX ⊢
            clear hWX c1 c2
            have dlen := dif_len z y nb k
            go_wp2_with (at_builtin; refine wpList_append_own_at _ rfl _ _ 22 rfl w.heap.size 3 i3 (.int .i64 0) 1 8 Try.underlying22 hi hz0 hz1 hz2 rfl (by decide) _ _ _ rfl (OX.out.alloc _) ⟨w5.heap.size, 0, none⟩ 1 1 [.int .i64 (k : Int)] rfl rfl (cell_one_new _ _ _) ?c2 ?c3 ?c4 ?c5 ?_)
            case c2 => simp [Value.oneCell']
            case c3 => simp [maxLen]; omega
            case c4 => omega
            case c5 => have := KX.out.size; simp; omega
            intro v' w6 hown' hgrow _ _
            have hk6 : Kept w w6 := Below.grown (KX.out.alloc _) hgrow (KX.out.alloc _).size (fun j hj => (OX.out.lt j hj).1)
            have H6 : Hid (Kept w w6 ∧ w6.ownsRow w.heap.size 3 1 v' (dif z y nb (k + 1)).length ((dif z y nb (k + 1)).map (Value.int .i64))) := ⟨hk6, by rw [HE.out]; simpa using hown'⟩
            clear hown' hgrow hk6
            go_wp2_with fail
            go_roundw
            case rel => exact ⟨k + 1, by omega, by omega, by go_num, H6.out⟩
            case measure => simp [intOf]; omega
        · have i1 : (k : Int) < na := by omega
          have i2 : ¬ (k : Int) < nb := by omega
          have HE : Hid (dif z y nb na = dif z y nb k) := dif_out z y nb k na (by omega) hk
          have HL := Lib.hid (Lst.of hr.out.2 (by have := dif_len z y nb k; omega) (dif_wf (by omega)))
          go_wp2_with fail
          go_ret
          exact ⟨_, rfl, by rw [HE.out]; exact HL.out, hr.out.1⟩
      · obtain rfl : k = na := by omega
        have HL := Lib.hid (Lst.of hr.out.2 (by have := dif_len z y nb k; omega) (dif_wf (by omega)))
        go_wp2_with fail
        go_ret
        exact ⟨_, rfl, HL.out, hr.out.1⟩
  · have HD : Hid (dif z y nb na = []) := by
      rcases Nat.eq_zero_or_pos na with e | e
      · show _ = _; rw [e]; rfl
      · show _ = _; rw [show nb = 0 from by omega]; exact dif_zero _ _ _
    by_cases h1 : 0 < na
    · obtain rfl : nb = 0 := by omega
      have i1 : (0 : Int) < na := by omega
      clear hA hB h0
      go_enter Try.func64, Try.ntmps64
      go_wp2_with fail
      refine wp_loop_rounds 1 ?_
      rw [rounds_succ]
      go_wp2_with fail
      go_ret
      exact ⟨_, rfl, by rw [HD.out]; exact Lst.nil _, Kept.refl _⟩
    · obtain rfl : na = 0 := by omega
      clear hA hB h0
      go_enter Try.func64, Try.ntmps64
      go_wp2_with fail
      refine wp_loop_rounds 1 ?_
      rw [rounds_succ]
      go_wp2_with fail
      go_ret
      exact ⟨_, rfl, by rw [HD.out]; exact Lst.nil _, Kept.refl _⟩
end Go.Proofs.Ytcjadneamacilaa.C

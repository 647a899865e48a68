/- palanquinref39: Same. -/
import Derived.Test.YtcjadneamacilaaAC
import Derived.Test.YtcjadneamacilaaL
import Derived.Deep.RegionHeld3
namespace Go.Proofs.Ytcjadneamacilaa.C
open Go.RowKit

theorem dif_none (z y : Nat → Int) (m n : Nat) (hn : n ≤ m) : dif z y m n = [] ↔ ∀ i, i < n → z i = y i := by
  induction n with
  | zero => exact ⟨fun _ i hi => absurd hi (by omega), fun _ => rfl⟩
  | succ n ih =>
    have hih := ih (by omega)
    by_cases h : z n = y n
    · rw [dif_miss z y m n (fun hh => hh.2 h), hih]
      refine ⟨fun hh i hi => ?_, fun hh i hi => hh i (by omega)⟩
      by_cases e : i = n
      · subst e; exact h
      · exact hh i (by omega)
    · rw [dif_hit z y m n (by omega) h]
      exact ⟨fun hh => by simp at hh, fun hh => absurd (hh n (by omega)) h⟩
theorem eqr_dif {n m : Nat} {z y : Nat → Int} (h : n = m) : EqR n z m y ↔ (!(dif z y m n).isEmpty) = false := by
  subst h
  have := dif_none z y n n (by omega)
  simp only [EqR, true_and, Bool.not_eq_false', List.isEmpty_iff]
  exact this.symm

set_option maxRecDepth 100000 in
set_option maxHeartbeats 4000000 in
theorem rsame_c (w : World) (p q : Pl) (s t : Sn) (hp : Snp w p s) (hq : Snp w q t) (h100 : ∀ i, i < s.nw → s.L i ≤ 100) :
    Calls Try.prog 19 #[.agg #[Value.int .i64 s.fr, .int .i64 s.up, .slice p.aw s.nw p.cw, .slice p.at' s.nt p.ct, .slice p.ac s.nc p.cc], .agg #[Value.int .i64 t.fr, .int .i64 t.up, .slice q.aw t.nw q.cw, .slice q.at' t.nt q.ct, .slice q.ac t.nc q.cc]] w fun e w' => e = .returned (.bool (decide (Same s t))) ∧ Kept w w' := by
  have HA := Lib.hid hp
  have HB := Lib.hid hq
  have K2 : Hid (Kept w ((w.alloc (.cells #[Value.int .i64 s.fr, .int .i64 s.up, .slice p.aw s.nw p.cw, .slice p.at' s.nt p.ct, .slice p.ac s.nc p.cc] 56)).alloc (.cells #[Value.int .i64 t.fr, .int .i64 t.up, .slice q.aw t.nw q.cw, .slice q.at' t.nt q.ct, .slice q.ac t.nc q.cc] 56))) := ((Kept.refl w).alloc _).alloc _
  clear hp hq
  by_cases e1 : s.fr = t.fr
  · by_cases e2 : s.up = t.up
    · by_cases e3 : s.nw = t.nw
      · by_cases e4 : s.nt = t.nt
        · by_cases e5 : s.nc = t.nc
          · have bF : (s.fr != t.fr) = false := by simp [e1]
            have bU : (s.up != t.up) = false := by simp [e2]
            have bN : ((s.nw : Int) != t.nw) = false := by simp [e3]
            have bT : ((s.nt : Int) != t.nt) = false := by simp [e4]
            have bC : ((s.nc : Int) != t.nc) = false := by simp [e5]
            have HT := Lib.hid (two_new w p q s t)
            have HN := Lib.hid (And.intro e3 (And.intro e4 e5))
            have HF := Lib.hid (And.intro e1 e2)
            have H100 := Lib.hid h100
            have hx1 : s.nw ≤ 9223372036854775807 := by have := HA.out.ww; simp [maxLen] at this; omega
            have hx2 : s.nt ≤ 9223372036854775807 := by have := HA.out.ts.2; simp [maxLen] at this; omega
            have hx3 : s.nc ≤ 9223372036854775807 := by have := HA.out.cs.2; simp [maxLen] at this; omega
            obtain ⟨aw, cw, A, K, at', ct, ac, cc⟩ := p
            obtain ⟨aw', cw', A', K', at2, ct', ac', cc'⟩ := q
            dsimp only at K2 HT ⊢
            clear e1 e2 e3 e4 e5 h100
            go_enter Try.func19, Try.ntmps19
            go_wp2_with fail
            have KW : Hid (Kept ((w.alloc (.cells #[Value.int .i64 s.fr, .int .i64 s.up, .slice aw s.nw cw, .slice at' s.nt ct, .slice ac s.nc cc] 56)).alloc (.cells #[Value.int .i64 t.fr, .int .i64 t.up, .slice aw' t.nw cw', .slice at2 t.nt ct', .slice ac' t.nc cc'] 56)) ((w.alloc (.cells #[Value.int .i64 s.fr, .int .i64 s.up, .slice aw s.nw cw, .slice at' s.nt ct, .slice ac s.nc cc] 56)).alloc (.cells #[Value.int .i64 t.fr, .int .i64 t.up, .slice aw' t.nw cw', .slice at2 t.nt ct', .slice ac' t.nc cc'] 56))) := Kept.refl _
            generalize ((w.alloc (.cells #[Value.int .i64 s.fr, .int .i64 s.up, .slice aw s.nw cw, .slice at' s.nt ct, .slice ac s.nc cc] 56)).alloc (.cells #[Value.int .i64 t.fr, .int .i64 t.up, .slice aw' t.nw cw', .slice at2 t.nt ct', .slice ac' t.nc cc'] 56)) = W2 at K2 HT KW ⊢
            go_loopw [5] (fun i wr => ∃ k : Nat, k ≤ s.nw ∧ i = .int .i64 k ∧ Hid (Kept W2 wr ∧ ∀ j, j < k → EqR (s.L j) (s.Z j) (t.L j) (t.Z j))) (fun i _ => s.nw - (intOf i).toNat)
            case atStart => exact ⟨0, by omega, rfl, KW.out, fun j hj => absurd hj (by omega)⟩
            case round =>
              obtain ⟨k, hk, rfl, hr⟩ := hrel
              have g2 := hr.out.1.cell HT.out.a2
              have g3 := hr.out.1.cell HT.out.c2
              by_cases hlt : k < s.nw
              · have i1 : (k : Int) < s.nw := by omega
                have i4 : (k : Int) < t.nw := by have := HN.out; omega
                obtain ⟨b1, o1, ea, -⟩ := HA.out.wr (by show 0 < s.nw; omega)
                obtain ⟨b2, o2, eb, -⟩ := HB.out.wr (by show 0 < t.nw; omega)
                dsimp only at ea eb
                subst ea eb
                have HQ : Hid (∀ w', Kept W2 w' → w'.cell? ⟨w.heap.size, 2, none⟩ = some (.slice (some ⟨b1, o1, none⟩) s.nw cw) ∧ w'.cell? ⟨w.heap.size + 1, 2, none⟩ = some (.slice (some ⟨b2, o2, none⟩) t.nw cw') ∧ w'.cell? ⟨b1, o1 + k, none⟩ = some (.slice (A k) (s.L k) (K k)) ∧ w'.cell? ⟨b2, o2 + k, none⟩ = some (.slice (A' k) (t.L k) (K' k))) := fun W hW =>
                  ⟨hW.cell HT.out.a2, hW.cell HT.out.c2, (K2.out.trans hW).cell (HA.out.cellW rfl k hlt), (K2.out.trans hW).cell (HB.out.cellW rfl k (by omega))⟩
                obtain ⟨g4, g5, g6, g7⟩ := HQ.out _ hr.out.1
                by_cases hL : s.L k = t.L k
                · have bL : ((s.L k : Int) != t.L k) = false := by simp [hL]
                  have RA : Hid (∀ W, Kept W2 W → RowI .u64 W (A k) (s.L k) (s.Z k)) := fun W hW => (HA.out.rows k hlt).1.kept (K2.out.trans hW)
                  have RB : Hid (∀ W, Kept W2 W → RowI .u64 W (A' k) (t.L k) (t.Z k)) := fun W hW => (HB.out.rows k (by have := HN.out; omega)).1.kept (K2.out.trans hW)
                  have HL := Lib.hid hL
                  cases hd : (!(dif (s.Z k) (t.Z k) (t.L k) (s.L k)).isEmpty)
                  · have HS := Lib.hid hd
                    have HE : Hid (EqR (s.L k) (s.Z k) (t.L k) (t.Z k)) := (eqr_dif hL).2 hd
                    clear hd hL g4 g5 g6 g7
                    go_wp2_with fail
                    clear g2 g3
                    go_region_held3 (fun w' => w'.cell? ⟨w.heap.size, 2, none⟩ = some (.slice (some ⟨b1, o1, none⟩) s.nw cw) ∧ w'.cell? ⟨w.heap.size + 1, 2, none⟩ = some (.slice (some ⟨b2, o2, none⟩) t.nw cw') ∧ w'.cell? ⟨b1, o1 + k, none⟩ = some (.slice (A k) (s.L k) (K k)) ∧ w'.cell? ⟨b2, o2 + k, none⟩ = some (.slice (A' k) (t.L k) (K' k)))
                      (first | exact HQ.out _ KX.out | exact HQ.out _ hr.out.1 | exact HQ.out _ hr.out.1.drew)
                      (first
                        | (go_at_call 64; refine (rw_0 _ (A k) (A' k) (s.L k) (t.L k) (K k) (K' k) (s.Z k) (t.Z k) (RA.out _ (by first | exact hr.out.1 | exact hr.out.1.drew)) (RB.out _ (by first | exact hr.out.1 | exact hr.out.1.drew)) (H100.out k hlt) HS.out).mono ?_; rintro e w4 ⟨la, lc, rfl, hk4⟩; have KX : Hid (Kept W2 w4) := (by first | exact hr.out.1.trans hk4 | exact hr.out.1.drew.trans hk4); clear hk4))
                    all_goals
                      go_wp2_with fail
                      go_roundw
                      case rel => exact ⟨k + 1, by omega, by go_num, KX.out, fun j hj => (Nat.lt_or_eq_of_le (Nat.le_of_lt_succ hj)).elim (hr.out.2 j) (fun e => e ▸ HE.out)⟩
                      case measure => simp [intOf]; omega
                  · have HS := Lib.hid hd
                    have HD : Hid (decide (Same s t) = false) := decide_eq_false (fun hh => by have := (eqr_dif hL).1 (hh.2.2.1.2 k hlt); rw [hd] at this; cases this)
                    clear hd hL g4 g5 g6 g7
                    go_wp2_with fail
                    clear g2 g3
                    go_region_held3 (fun w' => w'.cell? ⟨w.heap.size, 2, none⟩ = some (.slice (some ⟨b1, o1, none⟩) s.nw cw) ∧ w'.cell? ⟨w.heap.size + 1, 2, none⟩ = some (.slice (some ⟨b2, o2, none⟩) t.nw cw') ∧ w'.cell? ⟨b1, o1 + k, none⟩ = some (.slice (A k) (s.L k) (K k)) ∧ w'.cell? ⟨b2, o2 + k, none⟩ = some (.slice (A' k) (t.L k) (K' k)))
                      (first | exact HQ.out _ KX.out | exact HQ.out _ hr.out.1 | exact HQ.out _ hr.out.1.drew)
                      (first
                        | (go_at_call 64; refine (rw_1 _ (A k) (A' k) (s.L k) (t.L k) (K k) (K' k) (s.Z k) (t.Z k) (RA.out _ (by first | exact hr.out.1 | exact hr.out.1.drew)) (RB.out _ (by first | exact hr.out.1 | exact hr.out.1.drew)) (H100.out k hlt) HS.out).mono ?_; rintro e w4 ⟨la, ln, lc, rfl, hln, hk4⟩; have KX : Hid (Kept W2 w4) := (by first | exact hr.out.1.trans hk4 | exact hr.out.1.drew.trans hk4); clear hk4))
                    all_goals
                      go_wp2_with fail
                      go_ret
                      exact ⟨by rw [HD.out]; rfl, K2.out.trans KX.out⟩
                · have bL : ((s.L k : Int) != t.L k) = true := by simp; omega
                  have HD : Hid (decide (Same s t) = false) := decide_eq_false (fun hh => hL (hh.2.2.1.2 k hlt).1)
                  clear hL
                  go_wp2_with fail
                  go_quiet (fail)
                  go_wp2_with fail
                  go_ret
                  exact ⟨by rw [HD.out]; rfl, by first | exact K2.out.trans (hr.out.1.drewN _) | exact K2.out.trans hr.out.1.drew⟩
              · obtain rfl : k = s.nw := by omega
                have i1 : ¬ ((s.nw : Nat) : Int) < s.nw := by omega
                have HEW : Hid (EqW s t) := ⟨HN.out.1, hr.out.2⟩
                have KN := hr.out.1
                clear hk hr
                go_wp2_with fail
                clear i1 g2 g3 hlt
                go_loopw [6] (fun i wr => ∃ k : Nat, k ≤ s.nt ∧ i = .int .i64 k ∧ Hid (Kept W2 wr ∧ ∀ j, j < k → s.T j = t.T j)) (fun i _ => s.nt - (intOf i).toNat)
                case atStart => exact ⟨0, by omega, rfl, KN, fun j hj => absurd hj (by omega)⟩
                case round =>
                  obtain ⟨k, hk, rfl, hr⟩ := hrel
                  have g2 := hr.out.1.cell HT.out.a3
                  have g3 := hr.out.1.cell HT.out.c3
                  by_cases hlt : k < s.nt
                  · have i1 : (k : Int) < s.nt := by omega
                    have i4 : (k : Int) < t.nt := by have := HN.out; omega
                    obtain ⟨b1, o1, ea, -⟩ := HA.out.ts.1.2 (by show 0 < s.nt; omega)
                    obtain ⟨b2, o2, eb, -⟩ := HB.out.ts.1.2 (by show 0 < t.nt; omega)
                    dsimp only at ea eb
                    subst ea eb
                    have g4 := (K2.out.trans hr.out.1).cell (HA.out.ts.1.cellI rfl k hlt)
                    have g5 := (K2.out.trans hr.out.1).cell (HB.out.ts.1.cellI rfl k (by omega))
                    by_cases he : s.T k = t.T k
                    · have be : (s.T k != t.T k) = false := by simp [he]
                      have HE := Lib.hid he
                      clear he
                      go_wp2_with fail
                      go_quiet (fail)
                      go_wp2_with fail
                      go_roundw
                      case rel => first | exact ⟨k + 1, by omega, by go_num, hr.out.1.drewN _, fun j hj => (Nat.lt_or_eq_of_le (Nat.le_of_lt_succ hj)).elim (hr.out.2 j) (fun e => e ▸ HE.out)⟩ | exact ⟨k + 1, by omega, by go_num, hr.out.1.drew, fun j hj => (Nat.lt_or_eq_of_le (Nat.le_of_lt_succ hj)).elim (hr.out.2 j) (fun e => e ▸ HE.out)⟩
                      case measure => simp [intOf]; omega
                    · have be : (s.T k != t.T k) = true := by simp [he]
                      have HD : Hid (decide (Same s t) = false) := decide_eq_false (fun hh => he (hh.2.2.2.1.2 k hlt))
                      clear he
                      go_wp2_with fail
                      go_quiet (fail)
                      go_wp2_with fail
                      go_ret
                      exact ⟨by rw [HD.out]; rfl, by first | exact K2.out.trans (hr.out.1.drewN _) | exact K2.out.trans hr.out.1.drew⟩
                  · obtain rfl : k = s.nt := by omega
                    have i1 : ¬ ((s.nt : Nat) : Int) < s.nt := by omega
                    have HET : Hid (EqR s.nt s.T t.nt t.T) := ⟨HN.out.2.1, hr.out.2⟩
                    have KN' := hr.out.1
                    clear hk hr
                    go_wp2_with fail
                    clear i1 g2 g3 hlt
                    go_loopw [7] (fun i wr => ∃ k : Nat, k ≤ s.nc ∧ i = .int .i64 k ∧ Hid (Kept W2 wr ∧ ∀ j, j < k → s.C j = t.C j)) (fun i _ => s.nc - (intOf i).toNat)
                    case atStart => exact ⟨0, by omega, rfl, KN', fun j hj => absurd hj (by omega)⟩
                    case round =>
                      obtain ⟨k, hk, rfl, hr⟩ := hrel
                      have g2 := hr.out.1.cell HT.out.a4
                      have g3 := hr.out.1.cell HT.out.c4
                      by_cases hlt : k < s.nc
                      · have i1 : (k : Int) < s.nc := by omega
                        have i4 : (k : Int) < t.nc := by have := HN.out; omega
                        obtain ⟨b1, o1, ea, -⟩ := HA.out.cs.1.2 (by show 0 < s.nc; omega)
                        obtain ⟨b2, o2, eb, -⟩ := HB.out.cs.1.2 (by show 0 < t.nc; omega)
                        dsimp only at ea eb
                        subst ea eb
                        have g4 := (K2.out.trans hr.out.1).cell (HA.out.cs.1.cellI rfl k hlt)
                        have g5 := (K2.out.trans hr.out.1).cell (HB.out.cs.1.cellI rfl k (by omega))
                        by_cases he : s.C k = t.C k
                        · have be : (s.C k != t.C k) = false := by simp [he]
                          have HE := Lib.hid he
                          clear he
                          go_wp2_with fail
                          go_quiet (fail)
                          go_wp2_with fail
                          go_roundw
                          case rel => first | exact ⟨k + 1, by omega, by go_num, hr.out.1.drewN _, fun j hj => (Nat.lt_or_eq_of_le (Nat.le_of_lt_succ hj)).elim (hr.out.2 j) (fun e => e ▸ HE.out)⟩ | exact ⟨k + 1, by omega, by go_num, hr.out.1.drew, fun j hj => (Nat.lt_or_eq_of_le (Nat.le_of_lt_succ hj)).elim (hr.out.2 j) (fun e => e ▸ HE.out)⟩
                          case measure => simp [intOf]; omega
                        · have be : (s.C k != t.C k) = true := by simp [he]
                          have HD : Hid (decide (Same s t) = false) := decide_eq_false (fun hh => he (hh.2.2.2.2.2 k hlt))
                          clear he
                          go_wp2_with fail
                          go_quiet (fail)
                          go_wp2_with fail
                          go_ret
                          exact ⟨by rw [HD.out]; rfl, by first | exact K2.out.trans (hr.out.1.drewN _) | exact K2.out.trans hr.out.1.drew⟩
                      · obtain rfl : k = s.nc := by omega
                        have i1 : ¬ ((s.nc : Nat) : Int) < s.nc := by omega
                        have HD : Hid (decide (Same s t) = true) := decide_eq_true ⟨HF.out.1, HF.out.2, HEW.out, HET.out, HN.out.2.2, hr.out.2⟩
                        go_wp2_with fail
                        go_ret
                        exact ⟨by rw [HD.out]; rfl, K2.out.trans hr.out.1⟩

          · have HD : Hid (decide (Same s t) = false) := decide_eq_false (fun hh => e5 hh.2.2.2.2.1)
            have bF : (s.fr != t.fr) = false := by simp [e1]
            have bU : (s.up != t.up) = false := by simp [e2]
            have bN : ((s.nw : Int) != t.nw) = false := by simp [e3]
            have bT : ((s.nt : Int) != t.nt) = false := by simp [e4]
            have bC : ((s.nc : Int) != t.nc) = true := by simp; omega
            clear e1 e2 e3 e4 e5 h100
            go_enter Try.func19, Try.ntmps19
            go_wp2_with fail
            go_ret
            exact ⟨by rw [HD.out]; rfl, K2.out⟩

        · have HD : Hid (decide (Same s t) = false) := decide_eq_false (fun hh => e4 hh.2.2.2.1.1)
          have bF : (s.fr != t.fr) = false := by simp [e1]
          have bU : (s.up != t.up) = false := by simp [e2]
          have bN : ((s.nw : Int) != t.nw) = false := by simp [e3]
          have bT : ((s.nt : Int) != t.nt) = true := by simp; omega
          clear e1 e2 e3 e4 h100
          go_enter Try.func19, Try.ntmps19
          go_wp2_with fail
          go_ret
          exact ⟨by rw [HD.out]; rfl, K2.out⟩

      · have HD : Hid (decide (Same s t) = false) := decide_eq_false (fun hh => e3 hh.2.2.1.1)
        have bF : (s.fr != t.fr) = false := by simp [e1]
        have bU : (s.up != t.up) = false := by simp [e2]
        have bN : ((s.nw : Int) != t.nw) = true := by simp; omega
        clear e1 e2 e3 h100
        go_enter Try.func19, Try.ntmps19
        go_wp2_with fail
        go_ret
        exact ⟨by rw [HD.out]; rfl, K2.out⟩

    · have HD : Hid (decide (Same s t) = false) := decide_eq_false (fun hh => e2 hh.2.1)
      have bF : (s.fr != t.fr) = false := by simp [e1]
      have bU : (s.up != t.up) = true := by simp [e2]
      clear e1 e2 h100
      go_enter Try.func19, Try.ntmps19
      go_wp2_with fail
      go_ret
      exact ⟨by rw [HD.out]; rfl, K2.out⟩

  · have HD : Hid (decide (Same s t) = false) := decide_eq_false (fun hh => e1 hh.1)
    have bF : (s.fr != t.fr) = true := by simp [e1]
    clear e1 h100
    go_enter Try.func19, Try.ntmps19
    go_wp2_with fail
    go_ret
    exact ⟨by rw [HD.out]; rfl, K2.out⟩

end Go.Proofs.Ytcjadneamacilaa.C

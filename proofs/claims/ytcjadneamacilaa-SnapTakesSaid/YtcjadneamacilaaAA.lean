/- palanquinref39: Right. -/
import Derived.Test.YtcjadneamacilaaG
namespace Go.Proofs.Ytcjadneamacilaa.C
open Go.RowKit

set_option maxRecDepth 100000 in
set_option maxHeartbeats 2000000 in
theorem rright_bad (w : World) (p : Pl) (s : Sn) (h : ¬ okN s) :
    Calls Try.prog 33 #[.agg #[.int .i64 s.fr, .int .i64 s.up, .slice p.aw s.nw p.cw, .slice p.at' s.nt p.ct, .slice p.ac s.nc p.cc]] w fun e w' => e = .returned (.bool false) ∧ Kept w w' := by
  obtain ⟨fr, up, nw, L, Z, nt, T, nc, C⟩ := s
  simp only [okN] at h ⊢
  generalize p.aw = aw; generalize p.cw = cw; generalize p.at' = at'; generalize p.ct = ct; generalize p.ac = ac; generalize p.cc = cc
  by_cases h0 : 0 ≤ fr
  · by_cases h1 : up ≤ 64
    · by_cases h2 : fr ≤ up
      · by_cases h3 : (nw : Int) = up - fr
        · have b3 : ((nw : Int) != up - fr) = false := by simp [h3]
          by_cases h4 : (nt : Int) = up - fr
          · have b4 : ((nt : Int) != up - fr) = false := by simp [h4]
            have b5 : ((nc : Int) != up - fr) = true := by simp; omega
            clear h
            go_enter Try.func33, Try.ntmps33
            go_wp2_with fail
            go_ret
            exact ⟨rfl, (Kept.refl _).alloc _⟩
          · have b4 : ((nt : Int) != up - fr) = true := by simp; omega
            clear h
            go_enter Try.func33, Try.ntmps33
            go_wp2_with fail
            go_ret
            exact ⟨rfl, (Kept.refl _).alloc _⟩
        · have b3 : ((nw : Int) != up - fr) = true := by simp; omega
          clear h
          go_enter Try.func33, Try.ntmps33
          go_wp2_with fail
          go_ret
          exact ⟨rfl, (Kept.refl _).alloc _⟩
      · clear h
        go_enter Try.func33, Try.ntmps33
        go_wp2_with fail
        go_ret
        exact ⟨rfl, (Kept.refl _).alloc _⟩
    · clear h
      go_enter Try.func33, Try.ntmps33
      go_wp2_with fail
      go_ret
      exact ⟨rfl, (Kept.refl _).alloc _⟩
  · clear h
    go_enter Try.func33, Try.ntmps33
    go_wp2_with fail
    go_ret
    exact ⟨rfl, (Kept.refl _).alloc _⟩

set_option maxRecDepth 100000 in
set_option maxHeartbeats 2000000 in
theorem rright_c (w : World) (p : Pl) (s : Sn) (h : Snp w p s) :
    Calls Try.prog 33 #[.agg #[.int .i64 s.fr, .int .i64 s.up, .slice p.aw s.nw p.cw, .slice p.at' s.nt p.ct, .slice p.ac s.nc p.cc]] w fun e w' => e = .returned (.bool (decide (Right s))) ∧ Kept w w' := by
  by_cases hN : okN s
  · by_cases hz : s.nw = 0
    · have HR : Hid (decide (Right s) = true) := decide_eq_true ⟨hN, fun j hj => by omega⟩
      obtain ⟨h0, h1, h2, h3, h4, h5⟩ := hN
      have b3 : ((s.nw : Int) != s.up - s.fr) = false := by simp [h3]
      have b4 : ((s.nt : Int) != s.up - s.fr) = false := by simp [h4]
      have b5 : ((s.nc : Int) != s.up - s.fr) = false := by simp [h5]
      have i3 : ¬ (0 : Int) < s.up - s.fr := by omega
      clear h hz
      go_enter Try.func33, Try.ntmps33
      go_wp2_with fail
      refine wp_loop_rounds 1 ?_
      rw [rounds_succ]
      go_wp2_with fail
      go_ret
      exact ⟨by rw [HR.out]; rfl, (Kept.refl _).alloc _⟩
    obtain ⟨aw, cw, A, K, at', ct, ac, cc⟩ := p
    obtain ⟨b, off, ea, -⟩ := h.wr (by omega)
    obtain ⟨bt, ot, eat, -⟩ := h.ts.1.2 (by have := hN.2.2.2; omega)
    obtain ⟨bc, oc, eac, -⟩ := h.cs.1.2 (by have := hN.2.2.2; omega)
    dsimp only at ea eat eac h ⊢
    subst ea eat eac
    have hS := h.kept ((Kept.refl w).alloc (.cells #[.int .i64 s.fr, .int .i64 s.up, .slice (some ⟨b, off, none⟩) s.nw cw, .slice (some ⟨bt, ot, none⟩) s.nt ct, .slice (some ⟨bc, oc, none⟩) s.nc cc] 56))
    have HS := Lib.hid hS
    have HN := Lib.hid hN
    obtain ⟨h0, h1, h2, h3, h4, h5⟩ := hN
    clear h hS
    have hD : ∀ k, Hid (k < s.nw ∧ ¬ okAt s k) → decide (Right s) = false := fun k hk => decide_eq_false (fun hR => hk.out.2 (hR.2 k hk.out.1))
    have HD := Lib.hid hD
    clear hD
    have b3 : ((s.nw : Int) != s.up - s.fr) = false := by simp [h3]
    have b4 : ((s.nt : Int) != s.up - s.fr) = false := by simp [h4]
    have b5 : ((s.nc : Int) != s.up - s.fr) = false := by simp [h5]
    go_enter Try.func33, Try.ntmps33
    go_wp2_with fail
    go_loopw [4] (fun i wr => ∃ k : Nat, k ≤ s.nw ∧ i = .int .i64 k ∧ wr = (w.alloc (.cells #[.int .i64 s.fr, .int .i64 s.up, .slice (some ⟨b, off, none⟩) s.nw cw, .slice (some ⟨bt, ot, none⟩) s.nt ct, .slice (some ⟨bc, oc, none⟩) s.nc cc] 56)) ∧ Hid (∀ j, j < k → okAt s j)) (fun i _ => s.nw - (intOf i).toNat)
    case atStart => exact ⟨0, by omega, rfl, rfl, fun j hj => by omega⟩
    case round =>
      obtain ⟨k, hk, rfl, rfl, hok⟩ := hrel
      by_cases hlt : k < s.nw
      · have c0 := HS.out.cellW rfl k hlt
        have c1 := HS.out.cellT rfl k (by omega)
        have c2 := HS.out.cellC rfl k (by omega)
        dsimp only at c0
        have i3 : (k : Int) < s.up - s.fr := by omega
        have i4 : (k : Int) < s.nt := by omega
        have i5 : (k : Int) < s.nc := by omega
        have i6 : (k : Int) < s.nw := by omega
        by_cases hL : s.L k = 36
        · have bL : ((s.L k : Int) != 36) = false := by simp [hL]
          by_cases hT : 0 ≤ s.T k
          · by_cases hT2 : s.T k ≤ 2
            · by_cases hC : 0 ≤ s.C k
              · by_cases hC2 : s.C k ≤ 1000
                · have HK : Hid (okAt s k) := ⟨hL, ⟨hT, hT2⟩, hC, hC2⟩
                  clear hL
                  go_wp2_with fail
                  go_roundw
                  case rel => first | exact ⟨k + 1, by omega, by go_num, trivial, fun j hj => (Nat.lt_or_eq_of_le (Nat.le_of_lt_succ hj)).elim (hok.out j) (fun e => e ▸ HK.out)⟩ | exact ⟨k + 1, by omega, by go_num, rfl, fun j hj => (Nat.lt_or_eq_of_le (Nat.le_of_lt_succ hj)).elim (hok.out j) (fun e => e ▸ HK.out)⟩
                  case measure => simp [intOf]; omega
                · have HR := Lib.hid (HD.out k (Lib.hid ⟨hlt, fun hh => hC2 hh.2.2.2⟩))
                  clear hL
                  go_wp2_with fail
                  go_ret
                  exact ⟨by rw [HR.out]; rfl, (Kept.refl _).alloc _⟩
              · have HR := Lib.hid (HD.out k (Lib.hid ⟨hlt, fun hh => hC hh.2.2.1⟩))
                clear hL
                go_wp2_with fail
                go_ret
                exact ⟨by rw [HR.out]; rfl, (Kept.refl _).alloc _⟩
            · have HR := Lib.hid (HD.out k (Lib.hid ⟨hlt, fun hh => hT2 hh.2.1.2⟩))
              clear hL
              go_wp2_with fail
              go_ret
              exact ⟨by rw [HR.out]; rfl, (Kept.refl _).alloc _⟩
          · have HR := Lib.hid (HD.out k (Lib.hid ⟨hlt, fun hh => hT hh.2.1.1⟩))
            clear hL
            go_wp2_with fail
            go_ret
            exact ⟨by rw [HR.out]; rfl, (Kept.refl _).alloc _⟩
        · have bL : ((s.L k : Int) != 36) = true := by simp; omega
          have HR := Lib.hid (HD.out k (Lib.hid ⟨hlt, fun hh => hL hh.1⟩))
          clear hL
          go_wp2_with fail
          go_ret
          exact ⟨by rw [HR.out]; rfl, (Kept.refl _).alloc _⟩
      · have HR : Hid (decide (Right s) = true) := decide_eq_true ⟨HN.out, fun j hj => hok.out j (by omega)⟩
        have i3 : ¬ (k : Int) < s.up - s.fr := by omega
        go_wp2_with fail
        go_ret
        exact ⟨by rw [HR.out]; rfl, (Kept.refl _).alloc _⟩
  · rw [show decide (Right s) = false from decide_eq_false (fun hh => hN hh.1)]
    exact rright_bad w p s hN
end Go.Proofs.Ytcjadneamacilaa.C

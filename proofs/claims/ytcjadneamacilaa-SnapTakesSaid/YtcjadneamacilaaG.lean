/- A snap in memory; snap.in; snap.Right. -/
import Derived.Test.YtcjadneamacilaaE
namespace Go.Proofs.Ytcjadneamacilaa.C
open Go.RowKit

structure Sn where
  fr : Int
  up : Int
  nw : Nat
  L : Nat → Nat
  Z : Nat → Nat → Int
  nt : Nat
  T : Nat → Int
  nc : Nat
  C : Nat → Int

/-- Where its parts lie. -/
structure Pl where
  aw : Option Addr
  cw : Nat
  A : Nat → Option Addr
  K : Nat → Nat
  at' : Option Addr
  ct : Nat
  ac : Option Addr
  cc : Nat

abbrev sval (p : Pl) (s : Sn) : Value := .agg #[.int .i64 s.fr, .int .i64 s.up, .slice p.aw s.nw p.cw, .slice p.at' s.nt p.ct, .slice p.ac s.nc p.cc]

structure Snp (w : World) (p : Pl) (s : Sn) : Prop where
  wf0 : (Lit.int .i64 s.fr).wf = true
  wf1 : (Lit.int .i64 s.up).wf = true
  ww : s.nw ≤ p.cw ∧ p.cw ≤ maxLen
  wr : 0 < s.nw → ∃ b off, p.aw = some ⟨b, off, none⟩ ∧ ∀ i, i < s.nw → w.cell? ⟨b, off + i, none⟩ = some (.slice (p.A i) (s.L i) (p.K i))
  rows : ∀ i, i < s.nw → RowI .u64 w (p.A i) (s.L i) (s.Z i) ∧ s.L i ≤ p.K i ∧ p.K i ≤ maxLen
  ts : RowI .i64 w p.at' s.nt s.T ∧ s.nt ≤ p.ct ∧ p.ct ≤ maxLen
  cs : RowI .i64 w p.ac s.nc s.C ∧ s.nc ≤ p.cc ∧ p.cc ≤ maxLen

theorem RowI.kept {k : IntKind} {w w' : World} {a : Option Addr} {len : Nat} {z : Nat → Int} (h : RowI k w a len z) (hk : Kept w w') : RowI k w' a len z := by
  refine ⟨h.1, fun hp => ?_⟩
  obtain ⟨b, off, e, hc⟩ := h.2 hp
  exact ⟨b, off, e, fun i hi => ⟨hk.cell (hc i hi).1, (hc i hi).2⟩⟩
theorem Snp.kept {w w' : World} {p : Pl} {s : Sn} (h : Snp w p s) (hk : Kept w w') : Snp w' p s :=
  ⟨h.wf0, h.wf1, h.ww, fun hp => by obtain ⟨b, off, e, hc⟩ := h.wr hp; exact ⟨b, off, e, fun i hi => hk.cell (hc i hi)⟩,
    fun i hi => ⟨(h.rows i hi).1.kept hk, (h.rows i hi).2⟩, ⟨h.ts.1.kept hk, h.ts.2⟩, ⟨h.cs.1.kept hk, h.cs.2⟩⟩

theorem Snp.cellW {w : World} {p : Pl} {s : Sn} (h : Snp w p s) {b off : Nat} (e : p.aw = some ⟨b, off, none⟩) (i : Nat) (hi : i < s.nw) : w.cell? ⟨b, off + i, none⟩ = some (.slice (p.A i) (s.L i) (p.K i)) := by
  obtain ⟨b', off', e', hc⟩ := h.wr (by omega)
  rw [e] at e'; cases e'; exact hc i hi
theorem RowI.cellI {k : IntKind} {w : World} {a : Option Addr} {len : Nat} {z : Nat → Int} (h : RowI k w a len z) {b off : Nat} (e : a = some ⟨b, off, none⟩) (i : Nat) (hi : i < len) : w.cell? ⟨b, off + i, none⟩ = some (.int k (z i)) := by
  obtain ⟨b', off', e', hc⟩ := h.2 (by omega)
  rw [e] at e'; cases e'; exact (hc i hi).1
theorem Snp.cellT {w : World} {p : Pl} {s : Sn} (h : Snp w p s) {b off : Nat} (e : p.at' = some ⟨b, off, none⟩) (i : Nat) (hi : i < s.nt) : w.cell? ⟨b, off + i, none⟩ = some (.int .i64 (s.T i)) := h.ts.1.cellI e i hi
theorem Snp.cellC {w : World} {p : Pl} {s : Sn} (h : Snp w p s) {b off : Nat} (e : p.ac = some ⟨b, off, none⟩) (i : Nat) (hi : i < s.nc) : w.cell? ⟨b, off + i, none⟩ = some (.int .i64 (s.C i)) := h.cs.1.cellI e i hi

/-- A row of a right snap is right. -/
def okAt (s : Sn) (i : Nat) : Prop := s.L i = 36 ∧ (0 ≤ s.T i ∧ s.T i ≤ 2) ∧ 0 ≤ s.C i ∧ s.C i ≤ 1000
instance (s : Sn) (i : Nat) : Decidable (okAt s i) := by unfold okAt; infer_instance
def okN (s : Sn) : Prop := 0 ≤ s.fr ∧ s.up ≤ 64 ∧ s.fr ≤ s.up ∧ (s.nw : Int) = s.up - s.fr ∧ (s.nt : Int) = s.up - s.fr ∧ (s.nc : Int) = s.up - s.fr
instance (s : Sn) : Decidable (okN s) := by unfold okN; infer_instance
def Right (s : Sn) : Prop := okN s ∧ ∀ i, i < s.nw → okAt s i
instance (s : Sn) : Decidable (Right s) := by unfold Right; infer_instance

theorem sin_t (w : World) (n a b : Int) (h : a ≤ n ∧ n ≤ b) : Calls Try.prog 67 #[.int .i64 n, .int .i64 a, .int .i64 b] w fun e w' => e = .returned (.bool true) ∧ w = w' := by
  obtain ⟨h1, h2⟩ := h
  go_enter Try.func67, Try.ntmps67
  go_wp2
  go_ret
  exact ⟨rfl, rfl⟩
theorem sin_f (w : World) (n a b : Int) (h : ¬ (a ≤ n ∧ n ≤ b)) : Calls Try.prog 67 #[.int .i64 n, .int .i64 a, .int .i64 b] w fun e w' => e = .returned (.bool false) ∧ w = w' := by
  by_cases h1 : a ≤ n
  · have h2 : b < n := by omega
    clear h
    go_enter Try.func67, Try.ntmps67
    go_wp2
    go_ret
    refine ⟨?_, rfl⟩
    show Ending.returned (.bool (decide (n ≤ b))) = _
    rw [decide_eq_false (by omega)]
  · clear h
    go_enter Try.func67, Try.ntmps67
    go_wp2
    go_ret
    exact ⟨rfl, rfl⟩
def inB (n a b : Int) : Bool := decide (a ≤ n ∧ n ≤ b)
theorem sin_c (w : World) (n a b : Int) : Calls Try.prog 67 #[.int .i64 n, .int .i64 a, .int .i64 b] w fun e w' => e = .returned (.bool (inB n a b)) ∧ w = w' := by
  by_cases h : a ≤ n ∧ n ≤ b
  · rw [show inB n a b = true from decide_eq_true h]; exact sin_t w n a b h
  · rw [show inB n a b = false from decide_eq_false h]; exact sin_f w n a b h

/-- The box of a snap that came in by value. -/
abbrev sbox (p : Pl) (s : Sn) : Obj := .cells #[.int .i64 s.fr, .int .i64 s.up, .slice p.aw s.nw p.cw, .slice p.at' s.nt p.ct, .slice p.ac s.nc p.cc] 56

set_option maxRecDepth 100000 in
set_option maxHeartbeats 2000000 in
theorem right_bad (w : World) (p : Pl) (s : Sn) (h : ¬ okN s) :
    Calls Try.prog 23 #[.agg #[.int .i64 s.fr, .int .i64 s.up, .slice p.aw s.nw p.cw, .slice p.at' s.nt p.ct, .slice p.ac s.nc p.cc]] w fun e w' => e = .returned (.bool false) ∧ Kept w w' := by
  obtain ⟨fr, up, nw, L, Z, nt, T, nc, C⟩ := s
  simp only [okN] at h ⊢
  generalize p.aw = aw; generalize p.cw = cw; generalize p.at' = at'; generalize p.ct = ct; generalize p.ac = ac; generalize p.cc = cc
  by_cases h0 : 0 ≤ fr
  · by_cases h1 : up ≤ 64
    · by_cases h2 : fr ≤ up
      · by_cases h3 : (nw : Int) = up - fr
        · have b3 : ((nw : Int) != up - fr) = false := by simp [h3]
          by_cases h4 : (nt : Int) = up - fr
          · have b4 : ((nt : Int) != up - fr) = false := by simp [h4]
            have b5 : ((nc : Int) != up - fr) = true := by simp; omega
            clear h
            go_enter Try.func23, Try.ntmps23
            go_wp2
            go_ret
            exact ⟨rfl, (Kept.refl _).alloc _⟩
          · have b4 : ((nt : Int) != up - fr) = true := by simp; omega
            clear h
            go_enter Try.func23, Try.ntmps23
            go_wp2
            go_ret
            exact ⟨rfl, (Kept.refl _).alloc _⟩
        · have b3 : ((nw : Int) != up - fr) = true := by simp; omega
          clear h
          go_enter Try.func23, Try.ntmps23
          go_wp2
          go_ret
          exact ⟨rfl, (Kept.refl _).alloc _⟩
      · clear h
        go_enter Try.func23, Try.ntmps23
        go_wp2
        go_ret
        exact ⟨rfl, (Kept.refl _).alloc _⟩
    · clear h
      go_enter Try.func23, Try.ntmps23
      go_wp2
      go_ret
      exact ⟨rfl, (Kept.refl _).alloc _⟩
  · clear h
    go_enter Try.func23, Try.ntmps23
    go_wp2
    go_ret
    exact ⟨rfl, (Kept.refl _).alloc _⟩

set_option maxRecDepth 100000 in
set_option maxHeartbeats 2000000 in
theorem right_c (w : World) (p : Pl) (s : Sn) (h : Snp w p s) :
    Calls Try.prog 23 #[.agg #[.int .i64 s.fr, .int .i64 s.up, .slice p.aw s.nw p.cw, .slice p.at' s.nt p.ct, .slice p.ac s.nc p.cc]] w fun e w' => e = .returned (.bool (decide (Right s))) ∧ Kept w w' := by
  by_cases hN : okN s
  · by_cases hz : s.nw = 0
    · have HR : Hid (decide (Right s) = true) := decide_eq_true ⟨hN, fun j hj => by omega⟩
      obtain ⟨h0, h1, h2, h3, h4, h5⟩ := hN
      have b3 : ((s.nw : Int) != s.up - s.fr) = false := by simp [h3]
      have b4 : ((s.nt : Int) != s.up - s.fr) = false := by simp [h4]
      have b5 : ((s.nc : Int) != s.up - s.fr) = false := by simp [h5]
      have i3 : ¬ (0 : Int) < s.up - s.fr := by omega
      clear h hz
      go_enter Try.func23, Try.ntmps23
      go_wp2_with fail
      refine wp_loop_rounds 1 ?_
      rw [rounds_succ]
      go_wp2_with fail
      go_ret
      exact ⟨by rw [HR.out]; rfl, (Kept.refl _).alloc _⟩
    obtain ⟨aw, cw, A, K, at', ct, ac, cc⟩ := p
    obtain ⟨b, off, ea, -⟩ := h.wr (by omega)
    obtain ⟨bt, ot, eat, -⟩ := h.ts.1.2 (by have := hN.2.2.2; omega)
    obtain ⟨bc, oc, eac, -⟩ := h.cs.1.2 (by have := hN.2.2.2; omega)
    dsimp only at ea eat eac h ⊢
    subst ea eat eac
    have hS := h.kept ((Kept.refl w).alloc (.cells #[.int .i64 s.fr, .int .i64 s.up, .slice (some ⟨b, off, none⟩) s.nw cw, .slice (some ⟨bt, ot, none⟩) s.nt ct, .slice (some ⟨bc, oc, none⟩) s.nc cc] 56))
    have HS := Lib.hid hS
    have HN := Lib.hid hN
    obtain ⟨h0, h1, h2, h3, h4, h5⟩ := hN
    clear h hS
    have hD : ∀ k, Hid (k < s.nw ∧ ¬ okAt s k) → decide (Right s) = false := fun k hk => decide_eq_false (fun hR => hk.out.2 (hR.2 k hk.out.1))
    have HD := Lib.hid hD
    clear hD
    have b3 : ((s.nw : Int) != s.up - s.fr) = false := by simp [h3]
    have b4 : ((s.nt : Int) != s.up - s.fr) = false := by simp [h4]
    have b5 : ((s.nc : Int) != s.up - s.fr) = false := by simp [h5]
    go_enter Try.func23, Try.ntmps23
    go_wp2_with fail
    go_loopw [45] (fun i wr => ∃ k : Nat, k ≤ s.nw ∧ i = .int .i64 k ∧ wr = w.alloc (.cells #[.int .i64 s.fr, .int .i64 s.up, .slice (some ⟨b, off, none⟩) s.nw cw, .slice (some ⟨bt, ot, none⟩) s.nt ct, .slice (some ⟨bc, oc, none⟩) s.nc cc] 56) ∧ Hid (∀ j, j < k → okAt s j)) (fun i _ => s.nw - (intOf i).toNat)
    case atStart => exact ⟨0, by omega, rfl, rfl, fun j hj => by omega⟩
    case round =>
      obtain ⟨k, hk, rfl, rfl, hok⟩ := hrel
      by_cases hlt : k < s.nw
      · have c0 := HS.out.cellW rfl k hlt
        have c1 := HS.out.cellT rfl k (by omega)
        have c2 := HS.out.cellC rfl k (by omega)
        dsimp only at c0
        have i3 : (k : Int) < s.up - s.fr := by omega
        have i4 : (k : Int) < s.nt := by omega
        have i5 : (k : Int) < s.nc := by omega
        have i6 : (k : Int) < s.nw := by omega
        by_cases hL : s.L k = 36
        · have bL : ((s.L k : Int) != 36) = false := by simp [hL]
          by_cases hT : 0 ≤ s.T k ∧ s.T k ≤ 2
          · by_cases hC : 0 ≤ s.C k ∧ s.C k ≤ 1000
            · have HK : Hid (okAt s k) := ⟨hL, hT, hC⟩
              have bT : inB (s.T k) 0 2 = true := decide_eq_true hT
              have bC : inB (s.C k) 0 1000 = true := decide_eq_true hC
              clear hL hT hC
              go_wp2_with (go_at_call 67; refine (sin_c _ _ _ _).mono ?_; rintro e w' ⟨rfl, rfl⟩)
              go_roundw
              case rel => exact ⟨k + 1, by omega, by go_num, trivial, fun j hj => (Nat.lt_or_eq_of_le (Nat.le_of_lt_succ hj)).elim (hok.out j) (fun e => e ▸ HK.out)⟩
              case measure => simp [intOf]; omega
            · have HR := Lib.hid (HD.out k (Lib.hid ⟨hlt, fun hh => hC hh.2.2⟩))
              have bT : inB (s.T k) 0 2 = true := decide_eq_true hT
              have bC : inB (s.C k) 0 1000 = false := decide_eq_false hC
              clear hL hT hC
              go_wp2_with (go_at_call 67; refine (sin_c _ _ _ _).mono ?_; rintro e w' ⟨rfl, rfl⟩)
              go_ret
              exact ⟨by rw [HR.out]; rfl, (Kept.refl _).alloc _⟩
          · have HR := Lib.hid (HD.out k (Lib.hid ⟨hlt, fun hh => hT hh.2.1⟩))
            have bT : inB (s.T k) 0 2 = false := decide_eq_false hT
            clear hL hT
            go_wp2_with (go_at_call 67; refine (sin_c _ _ _ _).mono ?_; rintro e w' ⟨rfl, rfl⟩)
            go_ret
            exact ⟨by rw [HR.out]; rfl, (Kept.refl _).alloc _⟩
        · have bL : ((s.L k : Int) != 36) = true := by simp; omega
          have HR := Lib.hid (HD.out k (Lib.hid ⟨hlt, fun hh => hL hh.1⟩))
          clear hL
          go_wp2_with fail
          go_ret
          exact ⟨by rw [HR.out]; rfl, (Kept.refl _).alloc _⟩
      · have HR : Hid (decide (Right s) = true) := decide_eq_true ⟨HN.out, fun j hj => hok.out j (by omega)⟩
        have i3 : ¬ (k : Int) < s.up - s.fr := by omega
        go_wp2_with fail
        go_ret
        exact ⟨by rw [HR.out]; rfl, (Kept.refl _).alloc _⟩
  · rw [show decide (Right s) = false from decide_eq_false (fun hh => hN hh.1)]
    exact right_bad w p s hN
end Go.Proofs.Ytcjadneamacilaa.C

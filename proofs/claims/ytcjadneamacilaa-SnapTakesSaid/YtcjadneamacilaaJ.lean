/- snap.Take of a machine. -/
import Derived.Test.YtcjadneamacilaaI
namespace Go.Proofs.Ytcjadneamacilaa.C
open Go.RowKit

theorem ext_self {α : Type} (G : Nat → α) (j : Nat) (x : α) (h : G j = x) : ext G j x = G := by
  funext i
  by_cases e : i = j
  · subst e; simp [ext, h]
  · simp [ext, e]

def snapOf (Zm : Nat → Nat → Int) (Lm : Nat → Fm) (f N : Nat) : Sn :=
  ⟨f, (f : Int) + N, N, fun _ => 36, fun i => Zm (f + i), N, fun i => (Lm (f + i)).ty, N, fun i => (Lm (f + i)).ct⟩

theorem wf_of_le {n : Int} (h0 : 0 ≤ n) (h1 : n ≤ 1000) : (Lit.int .i64 n).wf = true := by
  simp [Lit.wf, IntKind.min, IntKind.max, IntKind.signed, IntKind.bits]; omega

theorem rowI_of {w : World} {S N : Nat} {v : Value} {T : Nat → Int} (h : w.ownsRow (S + 1) 3 1 v N ((List.range N).map fun i => .int .i64 (T i))) (hN : N ≤ 64) (hT : ∀ i, i < N → (Lit.int .i64 (T i)).wf = true) :
    ∃ a c, v = .slice a N c ∧ RowI .i64 w a N T ∧ N ≤ c ∧ c ≤ maxLen := by
  rcases Nat.eq_zero_or_pos N with h0 | h0
  · subst h0
    obtain ⟨-, h | ⟨g, cap, cur, rfl, _, _, h1, h2, _⟩⟩ := h
    · exact ⟨none, 0, h.1, ⟨by omega, fun h => absurd h (by omega)⟩, by omega, by simp [maxLen]⟩
    · exact ⟨_, _, rfl, ⟨by omega, fun h => absurd h (by omega)⟩, by omega, by omega⟩
  · have hh := h
    obtain ⟨-, h | ⟨g, cap, cur, rfl, _, _, h1, h2, _⟩⟩ := h
    · omega
    · refine ⟨_, _, rfl, ⟨by simp [maxLen]; omega, fun _ => ⟨g, 0, rfl, fun i hi => ⟨?_, hT i hi⟩⟩⟩, h1, h2⟩
      rw [Nat.zero_add, hh.cellAt i (by omega), List.getElem?_map, List.getElem?_range hi]
      rfl

/-- Where a taken snap's parts lie. -/
theorem snp_of {w : World} {S N : Nat} {fr up : Int} {v2 v3 v4 : Value} {G Q : Nat → Nat} {Z : Nat → Nat → Int} {T C : Nat → Int} (hN : N ≤ 64) (h : Rw w S fr up N N N v2 v3 v4 G Q Z T C)
    (w0 : (Lit.int .i64 fr).wf = true) (w1 : (Lit.int .i64 up).wf = true)
    (wZ : ∀ i k, i < N → k < 36 → (Lit.int .u64 (Z i k)).wf = true) (wT : ∀ i, i < N → (Lit.int .i64 (T i)).wf = true) (wC : ∀ i, i < N → (Lit.int .i64 (C i)).wf = true) (wQ : ∀ i, i < N → 36 ≤ Q i ∧ Q i ≤ maxLen) :
    ∃ p : Pl, v2 = .slice p.aw N p.cw ∧ v3 = .slice p.at' N p.ct ∧ v4 = .slice p.ac N p.cc ∧ Snp w p ⟨fr, up, N, fun _ => 36, Z, N, T, N, C⟩ := by
  obtain ⟨at', ct, rfl, ht⟩ := rowI_of h.r3 (by omega) wT
  obtain ⟨ac, cc, rfl, hc⟩ := rowI_of h.r4 (by omega) wC
  have hw : ∃ aw cw, v2 = .slice aw N cw ∧ (N ≤ cw ∧ cw ≤ maxLen) ∧ (0 < N → ∃ b off, aw = some ⟨b, off, none⟩ ∧ ∀ i, i < N → w.cell? ⟨b, off + i, none⟩ = some (.slice (some ⟨G i, 0, none⟩) 36 (Q i))) := by
    have h2 := h.r2
    obtain ⟨-, hx | ⟨g, cap, cur, rfl, _, _, h1, h3, _⟩⟩ := h2
    · rcases Nat.eq_zero_or_pos N with h0 | h0
      · subst h0
        exact ⟨none, 0, hx.1, ⟨by omega, by simp [maxLen]⟩, fun hp => absurd hp (by omega)⟩
      · have := hx.2; omega
    · refine ⟨_, _, rfl, ⟨h1, h3⟩, fun _ => ⟨g, 0, rfl, fun i hi => ?_⟩⟩
      rw [Nat.zero_add, h.r2.cellAt i (by omega), List.getElem?_map, List.getElem?_range hi]
      rfl
  obtain ⟨aw, cw, rfl, hcw, hcells⟩ := hw
  refine ⟨⟨aw, cw, fun i => some ⟨G i, 0, none⟩, Q, at', ct, ac, cc⟩, rfl, rfl, rfl, w0, w1, hcw, hcells, fun i hi => ⟨⟨by simp [maxLen], fun _ => ⟨G i, 0, rfl, fun k hk => ?_⟩⟩, (wQ i hi).1, (wQ i hi).2⟩, ht, hc⟩
  have hi' : i < N := hi
  have hk' : k < 36 := hk
  rw [Nat.zero_add]
  exact ⟨(h.rows i hi').2 k hk', wZ _ _ hi' hk'⟩

theorem Rw.low {w : World} {S j2 j3 j4 : Nat} {fr up : Int} {v2 v3 v4 : Value} {G Q : Nat → Nat} {Z : Nat → Nat → Int} {T C : Nat → Int} (h : Rw w S fr up j2 j3 j4 v2 v3 v4 G Q Z T C) (b o : Nat) (hb : b < S) (u : Value) :
    Rw (w.setCell ⟨b, o, none⟩ u) S fr up j2 j3 j4 v2 v3 v4 G Q Z T C := by
  have hc : ∀ q o' v, q ≠ b → w.cell? ⟨q, o', none⟩ = some v → (w.setCell ⟨b, o, none⟩ u).cell? ⟨q, o', none⟩ = some v := fun q o' v hq hv => by
    rw [World.cell?_setCell_other _ _ _ _ (addr_ne (.inl (fun e => hq e.symm)))]; exact hv
  exact ⟨hc _ _ _ (by omega) h.s0, hc _ _ _ (by omega) h.s1, hc _ _ _ (by omega) h.s2, hc _ _ _ (by omega) h.s3, hc _ _ _ (by omega) h.s4, fun o' => by rw [World.frozen?_setCell]; exact h.fz o',
    ownsRow_setCell_below h.r2 (by simp; omega) _, ownsRow_setCell_below h.r3 (by simp; omega) _, ownsRow_setCell_below h.r4 (by simp; omega) _,
    fun i hi => ⟨(h.rows i hi).1, fun k hk => hc _ _ _ (by have := (h.rows i hi).1; omega) ((h.rows i hi).2 k hk)⟩, h.g, h.n2, h.n3⟩

theorem five (w : World) (b : Nat) (v0 v1 v2 v3 v4 u0 u1 u2 u3 u4 : Value) (h0 : w.cell? ⟨b, 0, none⟩ = some u0) (h1 : w.cell? ⟨b, 1, none⟩ = some u1) (h2 : w.cell? ⟨b, 2, none⟩ = some u2) (h3 : w.cell? ⟨b, 3, none⟩ = some u3) (h4 : w.cell? ⟨b, 4, none⟩ = some u4) :
    (((((w.setCell ⟨b, 0, none⟩ v0).setCell ⟨b, 1, none⟩ v1).setCell ⟨b, 2, none⟩ v2).setCell ⟨b, 3, none⟩ v3).setCell ⟨b, 4, none⟩ v4).cell? ⟨b, 0, none⟩ = some v0 ∧
    (((((w.setCell ⟨b, 0, none⟩ v0).setCell ⟨b, 1, none⟩ v1).setCell ⟨b, 2, none⟩ v2).setCell ⟨b, 3, none⟩ v3).setCell ⟨b, 4, none⟩ v4).cell? ⟨b, 1, none⟩ = some v1 ∧
    (((((w.setCell ⟨b, 0, none⟩ v0).setCell ⟨b, 1, none⟩ v1).setCell ⟨b, 2, none⟩ v2).setCell ⟨b, 3, none⟩ v3).setCell ⟨b, 4, none⟩ v4).cell? ⟨b, 2, none⟩ = some v2 ∧
    (((((w.setCell ⟨b, 0, none⟩ v0).setCell ⟨b, 1, none⟩ v1).setCell ⟨b, 2, none⟩ v2).setCell ⟨b, 3, none⟩ v3).setCell ⟨b, 4, none⟩ v4).cell? ⟨b, 3, none⟩ = some v3 ∧
    (((((w.setCell ⟨b, 0, none⟩ v0).setCell ⟨b, 1, none⟩ v1).setCell ⟨b, 2, none⟩ v2).setCell ⟨b, 3, none⟩ v3).setCell ⟨b, 4, none⟩ v4).cell? ⟨b, 4, none⟩ = some v4 := by
  have O : ∀ (W : World) (i j : Nat) (v u : Value), i ≠ j → W.cell? ⟨b, j, none⟩ = some u → (W.setCell ⟨b, i, none⟩ v).cell? ⟨b, j, none⟩ = some u := fun W i j v u hne h => by
    rw [World.cell?_setCell_other _ _ _ _ (addr_ne (.inr hne))]; exact h
  have E : ∀ (W : World) (i : Nat) (v u : Value), W.cell? ⟨b, i, none⟩ = some u → (W.setCell ⟨b, i, none⟩ v).cell? ⟨b, i, none⟩ = some v := fun W i v u h => World.cell?_setCell_same _ _ _ h
  refine ⟨?_, ?_, ?_, ?_, ?_⟩
  · exact O _ 4 0 _ _ (by omega) (O _ 3 0 _ _ (by omega) (O _ 2 0 _ _ (by omega) (O _ 1 0 _ _ (by omega) (E _ 0 _ _ h0))))
  · exact O _ 4 1 _ _ (by omega) (O _ 3 1 _ _ (by omega) (O _ 2 1 _ _ (by omega) (E _ 1 _ _ (O _ 0 1 _ _ (by omega) h1))))
  · exact O _ 4 2 _ _ (by omega) (O _ 3 2 _ _ (by omega) (E _ 2 _ _ (O _ 1 2 _ _ (by omega) (O _ 0 2 _ _ (by omega) h2))))
  · exact O _ 4 3 _ _ (by omega) (E _ 3 _ _ (O _ 2 3 _ _ (by omega) (O _ 1 3 _ _ (by omega) (O _ 0 3 _ _ (by omega) h3))))
  · exact E _ 4 _ _ (O _ 3 4 _ _ (by omega) (O _ 2 4 _ _ (by omega) (O _ 1 4 _ _ (by omega) (O _ 0 4 _ _ (by omega) h4))))

theorem kind_wf {n : Nat} (L : Nat → Fm) (h : ∀ i, i < n → 0 ≤ (L i).ty ∧ (L i).ty ≤ 2) (i : Nat) (hi : i < n) : (Lit.int .i64 (L i).ty).wf = true := wf_of_le (h i hi).1 (by have := (h i hi).2; omega)

set_option maxRecDepth 100000 in
set_option maxHeartbeats 2000000 in
theorem take_c (w : World) (mb mm ms tb sb n cap f N : Nat) (Zm : Nat → Nat → Int) (Lm : Nat → Fm) (hM : Mc w mb mm ms tb sb n cap Zm Lm) (hT : ∀ i, i < n → 0 ≤ (Lm i).ty ∧ (Lm i).ty ≤ 2) (hN : f + N ≤ n) :
    Calls Try.prog 17 #[.pointer (some ⟨mb, 0, none⟩), .int .i64 f, .int .i64 ((f : Int) + N)] w fun e w' => ∃ p, e = .returned (.tuple #[.agg #[.int .i64 f, .int .i64 ((f : Int) + N), .slice p.aw N p.cw, .slice p.at' N p.ct, .slice p.ac N p.cc], .int .i64 0]) ∧ Snp w' p (snapOf Zm Lm f N) ∧ Kept w w' := by
  have hn := hM.M.le
  have HWZ : Hid (∀ i k, i < f + N → k < 36 → (Lit.int .u64 (Zm i k)).wf = true) := fun i k hi hk => hM.M.wf i k (by omega) hk
  have HWT : Hid (∀ i, i < f + N → (Lit.int .i64 (Lm i).ty).wf = true) := fun i hi => kind_wf Lm hT i (by omega)
  have HWC : Hid (∀ i, i < f + N → (Lit.int .i64 (Lm i).ct).wf = true) := fun i hi => wf_of_le (hM.T.lo i (by omega)) (hM.T.hi i (by omega))
  have K0 : Hid (Kept w ((w.alloc (.cells #[.pointer (some ⟨mb, 0, none⟩)] 27)).alloc (.cells #[.int .i64 0, .int .i64 0, .slice none 0 0, .slice none 0 0, .slice none 0 0] 56))) := ((Kept.refl w).alloc _).alloc _
  have HM := Lib.hid (hM.kept K0.out)
  clear hM hT
  go_enter Try.func17, Try.ntmps17
  go_wp2_with (first
    | (go_at_call 56; refine (mCores_c _ HM.out).mono ?_; rintro e w' ⟨rfl, rfl⟩)
    | (go_at_call 9; refine (mMem_c _ HM.out).mono ?_; rintro e w' ⟨rfl, rfl⟩)
    | (go_at_call 57; refine (memlen_c _ _ _ _ _ HM.out.M).mono ?_; rintro e w' ⟨rfl, rfl⟩))
  have hsz : ((w.alloc (.cells #[.pointer (some ⟨mb, 0, none⟩)] 27)).alloc (.cells #[.int .i64 0, .int .i64 0, .slice none 0 0, .slice none 0 0, .slice none 0 0] 56)).heap.size = w.heap.size + 1 + 1 := by simp
  have hbm : ((w.alloc (.cells #[.pointer (some ⟨mb, 0, none⟩)] 27)).alloc (.cells #[.int .i64 0, .int .i64 0, .slice none 0 0, .slice none 0 0, .slice none 0 0] 56)).cell? ⟨w.heap.size, 0, none⟩ = some (.pointer (some ⟨mb, 0, none⟩)) := by
    rw [World.cell?_alloc_lt _ _ _ (by simp)]; simp
  have hB6 : ∀ o v, (#[Value.int .i64 0, .int .i64 0, .slice none 0 0, .slice none 0 0, .slice none 0 0] : Array Value)[o]? = some v → ((w.alloc (.cells #[.pointer (some ⟨mb, 0, none⟩)] 27)).alloc (.cells #[.int .i64 0, .int .i64 0, .slice none 0 0, .slice none 0 0, .slice none 0 0] 56)).cell? ⟨w.heap.size + 1, o, none⟩ = some v := by
    intro o v h
    rw [show w.heap.size + 1 = (w.alloc (.cells #[.pointer (some ⟨mb, 0, none⟩)] 27)).heap.size from by simp, World.cell?_alloc_new]; exact h
  have hF6 : ∀ o, ((w.alloc (.cells #[.pointer (some ⟨mb, 0, none⟩)] 27)).alloc (.cells #[.int .i64 0, .int .i64 0, .slice none 0 0, .slice none 0 0, .slice none 0 0] 56)).frozen? ⟨w.heap.size + 1, o, none⟩ = false := by
    intro o; rw [frozen?_alloc_cells, frozen?_alloc_cells]; simp [World.frozen?]
  generalize (w.alloc (.cells #[.pointer (some ⟨mb, 0, none⟩)] 27)).alloc (.cells #[.int .i64 0, .int .i64 0, .slice none 0 0, .slice none 0 0, .slice none 0 0] 56) = W0 at K0 HM hsz hbm hB6 hF6 ⊢
  have HBM := Lib.hid hbm
  have HB6 := Lib.hid hB6
  have HF6 := Lib.hid hF6
  clear hbm hB6 hF6
  go_loopw [10] (fun i wr => ∃ (j : Nat) (v2 v3 v4 : Value) (G : Nat → Nat), j ≤ N ∧ i = .int .i64 ((f : Int) + j) ∧ Hid (Kept W0 wr ∧ Rw wr (w.heap.size + 1 + 1) f ((f : Int) + N) j j j v2 v3 v4 G (fun _ => 36) (fun i => Zm (f + i)) (fun i => (Lm (f + i)).ty) (fun i => (Lm (f + i)).ct))) (fun i _ => f + N - (intOf i).toNat)
  case atStart =>
    refine ⟨0, .slice none 0 0, .slice none 0 0, .slice none 0 0, fun _ => 0, by omega, by simp, (Kept.refl _).alloc _, ?_⟩
    have hc : ∀ o, (W0.alloc (.cells #[.int .i64 f, .int .i64 ((f : Int) + N), .slice none 0 0, .slice none 0 0, .slice none 0 0] 56)).cell? ⟨w.heap.size + 1 + 1, o, none⟩ = (#[Value.int .i64 f, .int .i64 ((f : Int) + N), .slice none 0 0, .slice none 0 0, .slice none 0 0] : Array Value)[o]? := by
      intro o; rw [← hsz, World.cell?_alloc_new]
    exact ⟨hc 0, hc 1, hc 2, hc 3, hc 4, fun o => by rw [frozen?_alloc_cells]; simp [World.frozen?, ← hsz], World.ownsRow_nil _ _ _ _, World.ownsRow_nil _ _ _ _, World.ownsRow_nil _ _ _ _, fun i hi => absurd hi (by omega), fun i hi => absurd hi (by omega), fun k hk => by simp [Value.ownBlock] at hk, fun k hk => by simp [Value.ownBlock] at hk⟩
  case round =>
    obtain ⟨j, v2, v3, v4, G, hj, rfl, hr⟩ := hrel
    by_cases hlt : j < N
    · have i1 : (f : Int) + j < (f : Int) + N := by omega
      go_wp2_with fail
      rw [show (f : Int) + (j : Int) = ((f + j : Nat) : Int) from by omega]
      refine (tadd_c W0 _ w.heap.size _ j (f + j) _ _ v2 v3 v4 G (fun _ => 36) _ _ _ mb mm ms tb sb n cap Zm Lm HM.out HBM.out hr.out.1 (by omega) (by omega) (by omega) hr.out.2).mono ?_
      rintro e w1 ⟨u2, u3, u4, rfl, hR1, hk1⟩
      rw [ext_self (fun _ => 36) j _ rfl, ext_self (fun i => Zm (f + i)) j _ rfl, ext_self (fun i => (Lm (f + i)).ty) j _ rfl, ext_self (fun i => (Lm (f + i)).ct) j _ rfl] at hR1
      have HR1 := Lib.hid (And.intro hk1 hR1)
      clear hk1 hR1
      go_wp2_with fail
      go_roundw
      case rel => exact ⟨j + 1, u2, u3, u4, _, by omega, by go_num, HR1.out⟩
      case measure => simp [intOf]; omega
    · obtain rfl : j = N := by omega
      obtain ⟨hk, hR⟩ := hr.out
      have c0 := hk.cell (HB6.out 0 (.int .i64 0) rfl)
      have c1 := hk.cell (HB6.out 1 (.int .i64 0) rfl)
      have c2 := hk.cell (HB6.out 2 (.slice none 0 0) rfl)
      have c3 := hk.cell (HB6.out 3 (.slice none 0 0) rfl)
      have c4 := hk.cell (HB6.out 4 (.slice none 0 0) rfl)
      have hz : ∀ o, wr.frozen? ⟨w.heap.size + 1, o, none⟩ = false := fun o => (hk.frozen (p := ⟨w.heap.size + 1, o, none⟩) (by simp; omega)).trans (HF6.out o)
      have z0 := hz 0
      have z1 := hz 1
      have z2 := hz 2
      have z3 := hz 3
      have z4 := hz 4
      have s0 := hR.s0
      have s1 := hR.s1
      have s2 := hR.s2
      have s3 := hR.s3
      have s4 := hR.s4
      clear hz
      obtain ⟨p0, rfl, rfl, rfl, -⟩ := snp_of (by omega) hR (wf_of_le (by omega) (by omega)) (wf_of_le (by omega) (by omega)) (fun i k hi hk => HWZ.out (f + i) k (by omega) hk) (fun i hi => HWT.out (f + i) (by omega)) (fun i hi => HWC.out (f + i) (by omega)) (fun i _ => ⟨by omega, by simp [maxLen]⟩)
      clear hk hR
      go_wp2_with fail
      obtain ⟨hk, hR⟩ := hr.out
      have hRf := ((((hR.low (w.heap.size + 1) 0 (by omega) (.int .i64 f)).low (w.heap.size + 1) 1 (by omega) (.int .i64 ((f : Int) + j))).low (w.heap.size + 1) 2 (by omega) (.slice p0.aw j p0.cw)).low (w.heap.size + 1) 3 (by omega) (.slice p0.at' j p0.ct)).low (w.heap.size + 1) 4 (by omega) (.slice p0.ac j p0.cc)
      obtain ⟨p, e2, e3, e4, hS⟩ := snp_of (by omega) hRf (wf_of_le (by omega) (by omega)) (wf_of_le (by omega) (by omega)) (fun i k hi hk => HWZ.out (f + i) k (by omega) hk) (fun i hi => HWT.out (f + i) (by omega)) (fun i hi => HWC.out (f + i) (by omega)) (fun i _ => ⟨by omega, by simp [maxLen]⟩)
      injection e2 with e2a _ e2b
      injection e3 with e3a _ e3b
      injection e4 with e4a _ e4b
      have hKF := (((((K0.out.trans hk).setCell (p := ⟨w.heap.size + 1, 0, none⟩) (by simp) (.int .i64 f)).setCell (p := ⟨w.heap.size + 1, 1, none⟩) (by simp) (.int .i64 ((f : Int) + j))).setCell (p := ⟨w.heap.size + 1, 2, none⟩) (by simp) (.slice p0.aw j p0.cw)).setCell (p := ⟨w.heap.size + 1, 3, none⟩) (by simp) (.slice p0.at' j p0.ct)).setCell (p := ⟨w.heap.size + 1, 4, none⟩) (by simp) (.slice p0.ac j p0.cc)
      obtain ⟨q0, q1, q2, q3, q4⟩ := five wr (w.heap.size + 1) (.int .i64 f) (.int .i64 ((f : Int) + j)) (.slice p0.aw j p0.cw) (.slice p0.at' j p0.ct) (.slice p0.ac j p0.cc) _ _ _ _ _ c0 c1 c2 c3 c4
      generalize ((((wr.setCell ⟨w.heap.size + 1, 0, none⟩ (.int .i64 f)).setCell ⟨w.heap.size + 1, 1, none⟩ (.int .i64 ((f : Int) + j))).setCell ⟨w.heap.size + 1, 2, none⟩ (.slice p0.aw j p0.cw)).setCell ⟨w.heap.size + 1, 3, none⟩ (.slice p0.at' j p0.ct)).setCell ⟨w.heap.size + 1, 4, none⟩ (.slice p0.ac j p0.cc) = WF at hKF hS q0 q1 q2 q3 q4 ⊢
      exact bodyPost_ret (v := .tuple #[.agg #[.int .i64 f, .int .i64 ((f : Int) + j), .slice p0.aw j p0.cw, .slice p0.at' j p0.ct, .slice p0.ac j p0.cc], .int .i64 0]) (by simp [results, Try.results17, go_sem, q0, q1, q2, q3, q4]) rfl ⟨p, by rw [e2a, e2b, e3a, e3b, e4a, e4b], hS, hKF⟩
end Go.Proofs.Ytcjadneamacilaa.C

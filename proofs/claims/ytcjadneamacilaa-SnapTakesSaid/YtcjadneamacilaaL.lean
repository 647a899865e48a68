/- slices.Equal at words and at numbers, slices.EqualFunc at rows, snap.Same; the law's numbers, small. -/
import Derived.Test.YtcjadneamacilaaG
namespace Go.Proofs.Ytcjadneamacilaa.C
open Go.RowKit

def EqR (n : Nat) (z : Nat → Int) (m : Nat) (y : Nat → Int) : Prop := n = m ∧ ∀ i, i < n → z i = y i
instance (n : Nat) (z : Nat → Int) (m : Nat) (y : Nat → Int) : Decidable (EqR n z m y) := by unfold EqR; infer_instance

set_option maxRecDepth 100000 in
set_option maxHeartbeats 1000000 in
theorem equ_c (w : World) (a b : Option Addr) (n m c d : Nat) (z y : Nat → Int) (ha : RowI .u64 w a n z) (hb : RowI .u64 w b m y) :
    Calls Try.prog 71 #[.slice a n c, .slice b m d] w fun e w' => e = .returned (.bool (decide (EqR n z m y))) ∧ Kept w w' := by
  by_cases hnm : n = m
  · subst hnm
    have bn : ((n : Int) != n) = false := by simp
    rcases Nat.eq_zero_or_pos n with h0 | h0
    · subst h0
      rw [show decide (EqR 0 z 0 y) = true from decide_eq_true ⟨rfl, fun i hi => absurd hi (by omega)⟩]
      clear ha hb
      go_enter Try.func71, Try.ntmps71
      go_wp2_with fail
      refine wp_loop_rounds 1 ?_
      rw [rounds_succ]
      go_wp2_with fail
      go_ret
      exact ⟨rfl, Kept.refl _⟩
    · obtain ⟨b1, o1, rfl, -⟩ := ha.2 h0
      obtain ⟨b2, o2, rfl, -⟩ := hb.2 h0
      have hmx : n ≤ 9223372036854775807 := by have := ha.1; simpa [maxLen] using this
      have HA := Lib.hid ha
      have HB := Lib.hid hb
      clear ha hb
      go_enter Try.func71, Try.ntmps71
      go_wp2_with fail
      go_loopw [13] (fun i wr => ∃ k : Nat, k ≤ n ∧ i = .int .i64 k ∧ Hid (Kept w wr ∧ ∀ j, j < k → z j = y j)) (fun i _ => n - (intOf i).toNat)
      case atStart => exact ⟨0, by omega, rfl, Kept.refl _, fun j hj => absurd hj (by omega)⟩
      case round =>
        obtain ⟨k, hk, rfl, hr⟩ := hrel
        by_cases hlt : k < n
        · have c1 := hr.out.1.cell (HA.out.cellI rfl k hlt)
          have c2 := hr.out.1.cell (HB.out.cellI rfl k hlt)
          have i1 : (k : Int) < n := by omega
          by_cases he : z k = y k
          · have be : (z k != y k) = false := by simp [he]
            have HE := Lib.hid he
            clear he
            go_wp2_with fail
            go_quiet (fail)
            go_wp2_with fail
            go_roundw
            case rel => first | exact ⟨k + 1, by omega, by go_num, hr.out.1.drewN _, fun j hj => (Nat.lt_or_eq_of_le (Nat.le_of_lt_succ hj)).elim (hr.out.2 j) (fun e => e ▸ HE.out)⟩ | exact ⟨k + 1, by omega, by go_num, hr.out.1.drew, fun j hj => (Nat.lt_or_eq_of_le (Nat.le_of_lt_succ hj)).elim (hr.out.2 j) (fun e => e ▸ HE.out)⟩
            case measure => simp [intOf]; omega
          · have be : (z k != y k) = true := by simp [he]
            have HR : Hid (decide (EqR n z n y) = false) := decide_eq_false (fun hh => he (hh.2 k hlt))
            clear he
            go_wp2_with fail
            go_quiet (fail)
            go_wp2_with fail
            go_ret
            exact ⟨by rw [HR.out]; rfl, by first | exact hr.out.1.drewN _ | exact hr.out.1.drew⟩
        · obtain rfl : k = n := by omega
          have HR : Hid (decide (EqR k z k y) = true) := decide_eq_true ⟨rfl, fun j hj => hr.out.2 j hj⟩
          go_wp2_with fail
          go_ret
          exact ⟨by rw [HR.out]; rfl, hr.out.1⟩
  · have bn : ((n : Int) != m) = true := by simp; omega
    rw [show decide (EqR n z m y) = false from decide_eq_false (fun hh => hnm hh.1)]
    clear ha hb hnm
    go_enter Try.func71, Try.ntmps71
    go_wp2_with fail
    go_ret
    exact ⟨rfl, Kept.refl _⟩

set_option maxRecDepth 100000 in
set_option maxHeartbeats 1000000 in
theorem eqi_c (w : World) (a b : Option Addr) (n m c d : Nat) (z y : Nat → Int) (ha : RowI .i64 w a n z) (hb : RowI .i64 w b m y) :
    Calls Try.prog 72 #[.slice a n c, .slice b m d] w fun e w' => e = .returned (.bool (decide (EqR n z m y))) ∧ Kept w w' := by
  by_cases hnm : n = m
  · subst hnm
    have bn : ((n : Int) != n) = false := by simp
    rcases Nat.eq_zero_or_pos n with h0 | h0
    · subst h0
      rw [show decide (EqR 0 z 0 y) = true from decide_eq_true ⟨rfl, fun i hi => absurd hi (by omega)⟩]
      clear ha hb
      go_enter Try.func72, Try.ntmps72
      go_wp2_with fail
      refine wp_loop_rounds 1 ?_
      rw [rounds_succ]
      go_wp2_with fail
      go_ret
      exact ⟨rfl, Kept.refl _⟩
    · obtain ⟨b1, o1, rfl, -⟩ := ha.2 h0
      obtain ⟨b2, o2, rfl, -⟩ := hb.2 h0
      have hmx : n ≤ 9223372036854775807 := by have := ha.1; simpa [maxLen] using this
      have HA := Lib.hid ha
      have HB := Lib.hid hb
      clear ha hb
      go_enter Try.func72, Try.ntmps72
      go_wp2_with fail
      go_loopw [13] (fun i wr => ∃ k : Nat, k ≤ n ∧ i = .int .i64 k ∧ Hid (Kept w wr ∧ ∀ j, j < k → z j = y j)) (fun i _ => n - (intOf i).toNat)
      case atStart => exact ⟨0, by omega, rfl, Kept.refl _, fun j hj => absurd hj (by omega)⟩
      case round =>
        obtain ⟨k, hk, rfl, hr⟩ := hrel
        by_cases hlt : k < n
        · have c1 := hr.out.1.cell (HA.out.cellI rfl k hlt)
          have c2 := hr.out.1.cell (HB.out.cellI rfl k hlt)
          have i1 : (k : Int) < n := by omega
          by_cases he : z k = y k
          · have be : (z k != y k) = false := by simp [he]
            have HE := Lib.hid he
            clear he
            go_wp2_with fail
            go_quiet (fail)
            go_wp2_with fail
            go_roundw
            case rel => first | exact ⟨k + 1, by omega, by go_num, hr.out.1.drewN _, fun j hj => (Nat.lt_or_eq_of_le (Nat.le_of_lt_succ hj)).elim (hr.out.2 j) (fun e => e ▸ HE.out)⟩ | exact ⟨k + 1, by omega, by go_num, hr.out.1.drew, fun j hj => (Nat.lt_or_eq_of_le (Nat.le_of_lt_succ hj)).elim (hr.out.2 j) (fun e => e ▸ HE.out)⟩
            case measure => simp [intOf]; omega
          · have be : (z k != y k) = true := by simp [he]
            have HR : Hid (decide (EqR n z n y) = false) := decide_eq_false (fun hh => he (hh.2 k hlt))
            clear he
            go_wp2_with fail
            go_quiet (fail)
            go_wp2_with fail
            go_ret
            exact ⟨by rw [HR.out]; rfl, by first | exact hr.out.1.drewN _ | exact hr.out.1.drew⟩
        · obtain rfl : k = n := by omega
          have HR : Hid (decide (EqR k z k y) = true) := decide_eq_true ⟨rfl, fun j hj => hr.out.2 j hj⟩
          go_wp2_with fail
          go_ret
          exact ⟨by rw [HR.out]; rfl, hr.out.1⟩
  · have bn : ((n : Int) != m) = true := by simp; omega
    rw [show decide (EqR n z m y) = false from decide_eq_false (fun hh => hnm hh.1)]
    clear ha hb hnm
    go_enter Try.func72, Try.ntmps72
    go_wp2_with fail
    go_ret
    exact ⟨rfl, Kept.refl _⟩

set_option maxRecDepth 100000 in
set_option maxHeartbeats 1000000 in
theorem numbers_c (w : World) (a b : Option Addr) (n m c d : Nat) (z y : Nat → Int) (ha : RowI .i64 w a n z) (hb : RowI .i64 w b m y) :
    Calls Try.prog 32 #[.slice a n c, .slice b m d] w fun e w' => e = .returned (.bool (decide (EqR n z m y))) ∧ Kept w w' := by
  by_cases hnm : n = m
  · subst hnm
    have bn : ((n : Int) != n) = false := by simp
    rcases Nat.eq_zero_or_pos n with h0 | h0
    · subst h0
      rw [show decide (EqR 0 z 0 y) = true from decide_eq_true ⟨rfl, fun i hi => absurd hi (by omega)⟩]
      clear ha hb
      go_enter Try.func32, Try.ntmps32
      go_wp2_with fail
      refine wp_loop_rounds 1 ?_
      rw [rounds_succ]
      go_wp2_with fail
      go_ret
      exact ⟨rfl, Kept.refl _⟩
    · obtain ⟨b1, o1, rfl, -⟩ := ha.2 h0
      obtain ⟨b2, o2, rfl, -⟩ := hb.2 h0
      have hmx : n ≤ 9223372036854775807 := by have := ha.1; simpa [maxLen] using this
      have HA := Lib.hid ha
      have HB := Lib.hid hb
      clear ha hb
      go_enter Try.func32, Try.ntmps32
      go_wp2_with fail
      go_loopw [5] (fun i wr => ∃ k : Nat, k ≤ n ∧ i = .int .i64 k ∧ Hid (Kept w wr ∧ ∀ j, j < k → z j = y j)) (fun i _ => n - (intOf i).toNat)
      case atStart => exact ⟨0, by omega, rfl, Kept.refl _, fun j hj => absurd hj (by omega)⟩
      case round =>
        obtain ⟨k, hk, rfl, hr⟩ := hrel
        by_cases hlt : k < n
        · have c1 := hr.out.1.cell (HA.out.cellI rfl k hlt)
          have c2 := hr.out.1.cell (HB.out.cellI rfl k hlt)
          have i1 : (k : Int) < n := by omega
          by_cases he : z k = y k
          · have be : (z k != y k) = false := by simp [he]
            have HE := Lib.hid he
            clear he
            go_wp2_with fail
            go_quiet (fail)
            go_wp2_with fail
            go_roundw
            case rel => first | exact ⟨k + 1, by omega, by go_num, hr.out.1.drewN _, fun j hj => (Nat.lt_or_eq_of_le (Nat.le_of_lt_succ hj)).elim (hr.out.2 j) (fun e => e ▸ HE.out)⟩ | exact ⟨k + 1, by omega, by go_num, hr.out.1.drew, fun j hj => (Nat.lt_or_eq_of_le (Nat.le_of_lt_succ hj)).elim (hr.out.2 j) (fun e => e ▸ HE.out)⟩
            case measure => simp [intOf]; omega
          · have be : (z k != y k) = true := by simp [he]
            have HR : Hid (decide (EqR n z n y) = false) := decide_eq_false (fun hh => he (hh.2 k hlt))
            clear he
            go_wp2_with fail
            go_quiet (fail)
            go_wp2_with fail
            go_ret
            exact ⟨by rw [HR.out]; rfl, by first | exact hr.out.1.drewN _ | exact hr.out.1.drew⟩
        · obtain rfl : k = n := by omega
          have HR : Hid (decide (EqR k z k y) = true) := decide_eq_true ⟨rfl, fun j hj => hr.out.2 j hj⟩
          go_wp2_with fail
          go_ret
          exact ⟨by rw [HR.out]; rfl, hr.out.1⟩
  · have bn : ((n : Int) != m) = true := by simp; omega
    rw [show decide (EqR n z m y) = false from decide_eq_false (fun hh => hnm hh.1)]
    clear ha hb hnm
    go_enter Try.func32, Try.ntmps32
    go_wp2_with fail
    go_ret
    exact ⟨rfl, Kept.refl _⟩


theorem same1_c (w : World) (a b : Option Addr) (n m c d : Nat) (z y : Nat → Int) (ha : RowI .u64 w a n z) (hb : RowI .u64 w b m y) :
    Calls Try.prog 70 #[.slice a n c, .slice b m d] w fun e w' => e = .returned (.bool (decide (EqR n z m y))) ∧ Kept w w' := by
  have HA := Lib.hid ha
  have HB := Lib.hid hb
  clear ha hb
  go_enter Try.func70, Try.ntmps70
  go_wp2_with fail
  refine (equ_c _ _ _ _ _ _ _ _ _ HA.out HB.out).mono ?_
  rintro e w1 ⟨rfl, hk⟩
  go_wp2_with fail
  go_ret
  exact ⟨rfl, hk⟩

def EqW (s t : Sn) : Prop := s.nw = t.nw ∧ ∀ i, i < s.nw → EqR (s.L i) (s.Z i) (t.L i) (t.Z i)
instance (s t : Sn) : Decidable (EqW s t) := by unfold EqW; infer_instance
def Same (s t : Sn) : Prop := s.fr = t.fr ∧ s.up = t.up ∧ EqW s t ∧ EqR s.nt s.T t.nt t.T ∧ EqR s.nc s.C t.nc t.C
instance (s t : Sn) : Decidable (Same s t) := by unfold Same; infer_instance

set_option maxRecDepth 100000 in
set_option maxHeartbeats 1000000 in
theorem eqf_c (w : World) (p q : Pl) (s t : Sn) (hp : Snp w p s) (hq : Snp w q t) :
    Calls Try.prog 69 #[.slice p.aw s.nw p.cw, .slice q.aw t.nw q.cw, .func (.func 70) #[] #[]] w fun e w' => e = .returned (.bool (decide (EqW s t))) ∧ Kept w w' := by
  by_cases hnm : s.nw = t.nw
  · rcases Nat.eq_zero_or_pos s.nw with h0 | h0
    · have h1 : t.nw = 0 := by omega
      rw [show decide (EqW s t) = true from decide_eq_true ⟨hnm, fun i hi => absurd hi (by omega)⟩]
      rw [h0, h1]
      clear hp hq h0 h1 hnm
      go_enter Try.func69, Try.ntmps69
      go_wp2_with fail
      refine wp_loop_rounds 1 ?_
      rw [rounds_succ]
      go_wp2_with fail
      go_ret
      exact ⟨rfl, Kept.refl _⟩
    · obtain ⟨aw, cw, A, K, at', ct, ac, cc⟩ := p
      obtain ⟨aw', cw', A', K', at'', ct', ac', cc'⟩ := q
      obtain ⟨b1, o1, e1, -⟩ := hp.wr h0
      obtain ⟨b2, o2, e2, -⟩ := hq.wr (by omega)
      dsimp only at e1 e2 ⊢
      subst e1 e2
      have hmx : s.nw ≤ 9223372036854775807 := by have := hp.ww; simp only [maxLen] at this; omega
      have bn : ((s.nw : Int) != t.nw) = false := by simp [hnm]
      have HA := Lib.hid hp
      have HB := Lib.hid hq
      have HN := Lib.hid hnm
      have hle : s.nw ≤ t.nw := by omega
      clear hp hq hnm
      go_enter Try.func69, Try.ntmps69
      go_wp2_with fail
      go_loopw [17] (fun i wr => ∃ k : Nat, k ≤ s.nw ∧ i = .int .i64 k ∧ Hid (Kept w wr ∧ ∀ j, j < k → EqR (s.L j) (s.Z j) (t.L j) (t.Z j))) (fun i _ => s.nw - (intOf i).toNat)
      case atStart => exact ⟨0, by omega, rfl, Kept.refl _, fun j hj => absurd hj (by omega)⟩
      case round =>
        obtain ⟨k, hk, rfl, hr⟩ := hrel
        by_cases hlt : k < s.nw
        · have c1 := hr.out.1.cell (HA.out.cellW rfl k hlt)
          have c2 := hr.out.1.cell (HB.out.cellW rfl k (by omega))
          have i1 : (k : Int) < s.nw := by omega
          have i2 : (k : Int) < t.nw := by omega
          go_wp2_with fail
          refine (same1_c _ _ _ _ _ _ _ _ _ ((HA.out.rows k hlt).1.kept hr.out.1) ((HB.out.rows k (by omega)).1.kept hr.out.1)).mono ?_
          by_cases he : EqR (s.L k) (s.Z k) (t.L k) (t.Z k)
          · rw [decide_eq_true he]
            have HE := Lib.hid he
            clear he
            rintro e w1 ⟨rfl, hk1⟩
            have HK := Lib.hid (hr.out.1.trans hk1)
            clear hk1
            go_wp2_with fail
            go_roundw
            case rel => first | exact ⟨k + 1, by omega, by go_num, HK.out, fun j hj => (Nat.lt_or_eq_of_le (Nat.le_of_lt_succ hj)).elim (hr.out.2 j) (fun e => e ▸ HE.out)⟩ | ((repeat apply Exists.intro); exact ⟨⟨k + 1, by omega, by go_num, HK.out, fun j hj => (Nat.lt_or_eq_of_le (Nat.le_of_lt_succ hj)).elim (hr.out.2 j) (fun e => e ▸ HE.out)⟩, rfl⟩)
            case measure => simp [intOf]; omega
          · rw [decide_eq_false he]
            have HR : Hid (decide (EqW s t) = false) := decide_eq_false (fun hh => he (hh.2 k hlt))
            clear he
            rintro e w1 ⟨rfl, hk1⟩
            have HK := Lib.hid (hr.out.1.trans hk1)
            clear hk1
            go_wp2_with fail
            go_ret
            exact ⟨by rw [HR.out]; rfl, HK.out⟩
        · have HR : Hid (decide (EqW s t) = true) := decide_eq_true ⟨HN.out, fun j hj => hr.out.2 j (by omega)⟩
          go_wp2_with fail
          go_ret
          exact ⟨by rw [HR.out]; rfl, hr.out.1⟩
  · have bn : ((s.nw : Int) != t.nw) = true := by simp; omega
    rw [show decide (EqW s t) = false from decide_eq_false (fun hh => hnm hh.1)]
    clear hp hq hnm
    go_enter Try.func69, Try.ntmps69
    go_wp2_with fail
    go_ret
    exact ⟨rfl, Kept.refl _⟩

set_option maxRecDepth 100000 in
set_option maxHeartbeats 1000000 in
theorem same_c (w : World) (p q : Pl) (s t : Sn) (hp : Snp w p s) (hq : Snp w q t) :
    Calls Try.prog 25 #[.agg #[.int .i64 s.fr, .int .i64 s.up, .slice p.aw s.nw p.cw, .slice p.at' s.nt p.ct, .slice p.ac s.nc p.cc], .agg #[.int .i64 t.fr, .int .i64 t.up, .slice q.aw t.nw q.cw, .slice q.at' t.nt q.ct, .slice q.ac t.nc q.cc]] w fun e w' => e = .returned (.bool (decide (Same s t))) ∧ Kept w w' := by
  have HA := Lib.hid hp
  have HB := Lib.hid hq
  have K2 : Hid (Kept w ((w.alloc (.cells #[.int .i64 s.fr, .int .i64 s.up, .slice p.aw s.nw p.cw, .slice p.at' s.nt p.ct, .slice p.ac s.nc p.cc] 56)).alloc (.cells #[.int .i64 t.fr, .int .i64 t.up, .slice q.aw t.nw q.cw, .slice q.at' t.nt q.ct, .slice q.ac t.nc q.cc] 56))) := ((Kept.refl w).alloc _).alloc _
  clear hp hq
  by_cases h1 : s.fr = t.fr
  · by_cases h2 : s.up = t.up
    · have b1 : (s.fr != t.fr) = false := by simp [h1]
      have b2 : (s.up != t.up) = false := by simp [h2]
      have HD : Hid (decide (Same s t) = (decide (EqW s t) && decide (EqR s.nt s.T t.nt t.T) && decide (EqR s.nc s.C t.nc t.C))) := by
        show _ = _
        by_cases x : EqW s t <;> by_cases y : EqR s.nt s.T t.nt t.T <;> by_cases z : EqR s.nc s.C t.nc t.C <;> simp [Same, h1, h2, x, y, z]
      obtain ⟨x, hx⟩ : ∃ x, decide (EqW s t) = x := ⟨_, rfl⟩
      obtain ⟨y, hy⟩ : ∃ y, decide (EqR s.nt s.T t.nt t.T) = y := ⟨_, rfl⟩
      obtain ⟨z, hz⟩ : ∃ z, decide (EqR s.nc s.C t.nc t.C) = z := ⟨_, rfl⟩
      rw [HD.out, hx, hy, hz]
      have HX := Lib.hid hx
      have HY := Lib.hid hy
      have HZ := Lib.hid hz
      clear h1 h2 HD hx hy hz
      go_enter Try.func25, Try.ntmps25
      go_wp2_with fail
      refine (eqf_c _ p q s t (HA.out.kept K2.out) (HB.out.kept K2.out)).mono ?_
      rw [HX.out]
      rintro e w1 ⟨rfl, hk1⟩
      have K1 := Lib.hid (K2.out.trans hk1)
      have bA : ∀ i v, (#[Value.int .i64 s.fr, .int .i64 s.up, .slice p.aw s.nw p.cw, .slice p.at' s.nt p.ct, .slice p.ac s.nc p.cc] : Array Value)[i]? = some v → w1.cell? ⟨w.heap.size, i, none⟩ = some v := fun i v hv => hk1.cell (by rw [World.cell?_alloc_lt _ _ _ (by simp), World.cell?_alloc_new]; exact hv)
      have bB : ∀ i v, (#[Value.int .i64 t.fr, .int .i64 t.up, .slice q.aw t.nw q.cw, .slice q.at' t.nt q.ct, .slice q.ac t.nc q.cc] : Array Value)[i]? = some v → w1.cell? ⟨w.heap.size + 1, i, none⟩ = some v := fun i v hv => hk1.cell (by rw [show w.heap.size + 1 = (w.alloc (.cells #[.int .i64 s.fr, .int .i64 s.up, .slice p.aw s.nw p.cw, .slice p.at' s.nt p.ct, .slice p.ac s.nc p.cc] 56)).heap.size from by simp, World.cell?_alloc_new]; exact hv)
      have a3 := bA 3 (.slice p.at' s.nt p.ct) rfl
      have a4 := bA 4 (.slice p.ac s.nc p.cc) rfl
      have b3 := bB 3 (.slice q.at' t.nt q.ct) rfl
      have b4 := bB 4 (.slice q.ac t.nc q.cc) rfl
      clear bA bB hk1
      cases x
      · go_wp2_with fail
        go_ret
        exact ⟨by simp, K1.out⟩
      · go_wp2_with fail
        refine (eqi_c _ _ _ _ _ _ _ _ _ ((HA.out.kept K1.out).ts.1) ((HB.out.kept K1.out).ts.1)).mono ?_
        rw [HY.out]
        rintro e w3 ⟨rfl, hk3⟩
        have a4' := hk3.cell a4
        have b4' := hk3.cell b4
        have K3 := Lib.hid (K1.out.trans hk3)
        clear hk3
        cases y
        · go_wp2_with fail
          go_ret
          exact ⟨by simp, K3.out⟩
        · go_wp2_with fail
          refine (eqi_c _ _ _ _ _ _ _ _ _ ((HA.out.kept K3.out).cs.1) ((HB.out.kept K3.out).cs.1)).mono ?_
          rw [HZ.out]
          rintro e w4 ⟨rfl, hk4⟩
          have K4 := Lib.hid (K3.out.trans hk4)
          clear hk4
          cases z
          · go_wp2_with fail
            go_ret
            exact ⟨by simp, K4.out⟩
          · go_wp2_with fail
            go_ret
            exact ⟨by simp, K4.out⟩
    · have b1 : (s.fr != t.fr) = false := by simp [h1]
      have b2 : (s.up != t.up) = true := by simp [h2]
      rw [show decide (Same s t) = false from decide_eq_false (fun hh => h2 hh.2.1)]
      clear h1 h2
      go_enter Try.func25, Try.ntmps25
      go_wp2_with fail
      go_ret
      exact ⟨rfl, K2.out⟩
  · have b1 : (s.fr != t.fr) = true := by simp [h1]
    rw [show decide (Same s t) = false from decide_eq_false (fun hh => h1 hh.1)]
    clear h1
    go_enter Try.func25, Try.ntmps25
    go_wp2_with fail
    go_ret
    exact ⟨rfl, K2.out⟩

def smallP (s : Sn) : Prop := s.nw ≤ 70 ∧ s.nt ≤ 70 ∧ s.nc ≤ 70 ∧ ∀ i, i < s.nw → s.L i ≤ 100
instance (s : Sn) : Decidable (smallP s) := by unfold smallP; infer_instance

set_option maxRecDepth 100000 in
set_option maxHeartbeats 1000000 in
theorem small_c (w : World) (p : Pl) (s : Sn) (hp : Snp w p s) :
    Calls Try.prog 21 #[.agg #[.int .i64 s.fr, .int .i64 s.up, .slice p.aw s.nw p.cw, .slice p.at' s.nt p.ct, .slice p.ac s.nc p.cc]] w fun e w' => e = .returned (.bool (decide (smallP s))) ∧ Kept w w' := by
  have K1 : Hid (Kept w (w.alloc (.cells #[.int .i64 s.fr, .int .i64 s.up, .slice p.aw s.nw p.cw, .slice p.at' s.nt p.ct, .slice p.ac s.nc p.cc] 56))) := (Kept.refl w).alloc _
  by_cases h1 : s.nw ≤ 70
  · have i1 : ¬ (70 : Int) < s.nw := by omega
    by_cases h2 : s.nt ≤ 70
    · have i2 : ¬ (70 : Int) < s.nt := by omega
      by_cases h3 : s.nc ≤ 70
      · have i3 : ¬ (70 : Int) < s.nc := by omega
        rcases Nat.eq_zero_or_pos s.nw with h0 | h0
        · have HR : Hid (decide (smallP s) = true) := decide_eq_true ⟨h1, h2, h3, fun i hi => absurd hi (by omega)⟩
          clear h1 h2 h3 hp
          go_enter Try.func21, Try.ntmps21
          go_wp2_with fail
          refine wp_loop_rounds 1 ?_
          rw [rounds_succ]
          have i4 : ¬ (0 : Int) < s.nw := by omega
          go_wp2_with fail
          go_ret
          exact ⟨by rw [HR.out]; rfl, (Kept.refl w).alloc _⟩
        · obtain ⟨aw, cw, A, K, at', ct, ac, cc⟩ := p
          obtain ⟨b1, o1, e1, -⟩ := hp.wr h0
          dsimp only at e1 K1 ⊢
          subst e1
          have HA := Lib.hid (hp.kept K1.out)
          clear hp
          go_enter Try.func21, Try.ntmps21
          go_wp2_with fail
          go_loopw [3] (fun i wr => ∃ k : Nat, k ≤ s.nw ∧ i = .int .i64 k ∧ wr = w.alloc (.cells #[.int .i64 s.fr, .int .i64 s.up, .slice (some ⟨b1, o1, none⟩) s.nw cw, .slice at' s.nt ct, .slice ac s.nc cc] 56) ∧ Hid (∀ j, j < k → s.L j ≤ 100)) (fun i _ => s.nw - (intOf i).toNat)
          case atStart => exact ⟨0, by omega, rfl, rfl, fun j hj => absurd hj (by omega)⟩
          case round =>
            obtain ⟨k, hk, rfl, rfl, hr⟩ := hrel
            by_cases hlt : k < s.nw
            · have c1 := HA.out.cellW rfl k hlt
              dsimp only at c1
              have i4 : (k : Int) < s.nw := by omega
              by_cases he : s.L k ≤ 100
              · have i5 : ¬ (100 : Int) < s.L k := by omega
                have HE := Lib.hid he
                clear he
                go_wp2_with fail
                go_roundw
                case rel => first | exact ⟨k + 1, by omega, by go_num, trivial, fun j hj => (Nat.lt_or_eq_of_le (Nat.le_of_lt_succ hj)).elim (hr.out j) (fun e => e ▸ HE.out)⟩ | ((repeat apply Exists.intro); exact ⟨⟨k + 1, by omega, by go_num, rfl, fun j hj => (Nat.lt_or_eq_of_le (Nat.le_of_lt_succ hj)).elim (hr.out j) (fun e => e ▸ HE.out)⟩, rfl⟩)
                case measure => simp [intOf]; omega
              · have i5 : (100 : Int) < s.L k := by omega
                have HR : Hid (decide (smallP s) = false) := decide_eq_false (fun hh => he (hh.2.2.2 k hlt))
                clear he
                go_wp2_with fail
                go_ret
                exact ⟨by rw [HR.out]; rfl, K1.out⟩
            · have HR : Hid (decide (smallP s) = true) := decide_eq_true ⟨h1, h2, h3, fun j hj => hr.out j (by omega)⟩
              have i4 : ¬ (k : Int) < s.nw := by omega
              go_wp2_with fail
              go_ret
              exact ⟨by rw [HR.out]; rfl, K1.out⟩
      · have i3 : (70 : Int) < s.nc := by omega
        rw [show decide (smallP s) = false from decide_eq_false (fun hh => h3 hh.2.2.1)]
        clear h1 h2 h3 hp
        go_enter Try.func21, Try.ntmps21
        go_wp2_with fail
        go_ret
        exact ⟨rfl, K1.out⟩
    · have i2 : (70 : Int) < s.nt := by omega
      rw [show decide (smallP s) = false from decide_eq_false (fun hh => h2 hh.2.1)]
      clear h1 h2 hp
      go_enter Try.func21, Try.ntmps21
      go_wp2_with fail
      go_ret
      exact ⟨rfl, K1.out⟩
  · have i1 : (70 : Int) < s.nw := by omega
    rw [show decide (smallP s) = false from decide_eq_false (fun hh => h1 hh.1)]
    clear h1 hp
    go_enter Try.func21, Try.ntmps21
    go_wp2_with fail
    go_ret
    exact ⟨rfl, K1.out⟩
end Go.Proofs.Ytcjadneamacilaa.C

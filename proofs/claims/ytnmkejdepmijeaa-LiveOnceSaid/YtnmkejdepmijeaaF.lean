/- Plain facts on tables of ids: what is taken, killed and counted. -/
import Derived.Test.YtnmkejdepmijeaaZ
namespace Go.Proofs.Ytnmkejdepmijeaa.C
open Go.RowKit

theorem bd_u8 {n : Int} (h : (Lit.int .u8 n).wf = true) : 0 ≤ n ∧ n ≤ 255 := by
  simp [Lit.wf, IntKind.min, IntKind.max, IntKind.signed, IntKind.bits] at h
  omega
theorem bd_i64 {n : Int} (h : (Lit.int .i64 n).wf = true) : -9223372036854775808 ≤ n ∧ n ≤ 9223372036854775807 := by
  simp [Lit.wf, IntKind.min, IntKind.max, IntKind.signed, IntKind.bits] at h
  omega

theorem idxF_none (p : Nat → Bool) : ∀ n i, (∀ j, i ≤ j → j < i + n → p j = false) → idxF p n i = -1 := by
  intro n
  induction n with
  | zero => intro i _; rfl
  | succ n ih =>
    intro i h
    have h0 := h i (by omega) (by omega)
    rw [show idxF p (n + 1) i = idxF p n (i + 1) from by simp [idxF, h0]]
    exact ih (i + 1) fun j h1 h2 => h j (by omega) (by omega)
theorem idxF_at (p : Nat → Bool) (k : Nat) : ∀ n i, i ≤ k → k < i + n → p k = true → (∀ j, i ≤ j → j < k → p j = false) → idxF p n i = k := by
  intro n
  induction n with
  | zero => intro i h1 h2; omega
  | succ n ih =>
    intro i h1 h2 hp h
    by_cases e : i = k
    · subst e; simp [idxF, hp]
    · have h0 := h i (by omega) (by omega)
      rw [show idxF p (n + 1) i = idxF p n (i + 1) from by simp [idxF, h0]]
      exact ih (i + 1) (by omega) (by omega) hp fun j h3 h4 => h j (by omega) h4

theorem take_at (L : Nat → Id) (fl : Int) (k : Nat) (hk : k < 64) (hp : mayB (L k) fl = true) (h : ∀ j, j < k → mayB (L j) fl = false) :
    take0 L fl = k ∧ take1 L fl = (L k).ep ∧ take2 L fl = 0 ∧ takeL L fl = upd L k { L k with on := true } := by
  have hi : takeI L fl = k := idxF_at _ k 64 0 (by omega) (by omega) hp fun j _ hj => h j hj
  unfold take0 take1 take2 takeL
  rw [hi, if_neg (by omega), if_neg (by omega), if_neg (by omega), if_neg (by omega)]
  exact ⟨rfl, rfl, rfl, rfl⟩
theorem take_none (L : Nat → Id) (fl : Int) (h : ∀ j, j < 64 → mayB (L j) fl = false) :
    take0 L fl = 0 ∧ take1 L fl = 0 ∧ take2 L fl = 2 ∧ takeL L fl = L := by
  have hi : takeI L fl = -1 := idxF_none _ 64 0 fun j _ hj => h j (by omega)
  unfold take0 take1 take2 takeL
  rw [hi, if_pos (by omega), if_pos (by omega), if_pos (by omega), if_pos (by omega)]
  exact ⟨rfl, rfl, rfl, rfl⟩

/-- The first m ids live, in epoch 0. -/
def onTo (m : Nat) : Nat → Id := fun j => ⟨decide (j < m), 0, false, 0⟩
theorem onTo_zero : zeroL = onTo 0 := by funext j; simp [zeroL, onTo]
theorem onTo_take (i : Nat) (hi : i < 64) : take0 (onTo i) 0 = i ∧ take1 (onTo i) 0 = 0 ∧ take2 (onTo i) 0 = 0 ∧ takeL (onTo i) 0 = onTo (i + 1) := by
  obtain ⟨h0, h1, h2, h3⟩ := take_at (onTo i) 0 i hi (by simp [mayB, onTo]) (fun j hj => by simp [mayB, onTo, hj])
  refine ⟨h0, h1, h2, h3.trans ?_⟩
  funext j
  by_cases e : j = i
  · simp [upd, onTo, e]
  · simp only [upd, onTo, e, if_false]
    congr 1
    simp; omega
theorem onTo_full (fl : Int) : take0 (onTo 64) fl = 0 ∧ take1 (onTo 64) fl = 0 ∧ take2 (onTo 64) fl = 2 ∧ takeL (onTo 64) fl = onTo 64 :=
  take_none _ _ fun j hj => by simp [mayB, onTo, hj]
/-- .. but for one, who was killed. -/
def butOne (m k : Nat) (now : Int) : Nat → Id := upd (onTo m) k ⟨false, 1, true, now⟩
theorem onTo_kill (m k : Nat) (hm : m ≤ 64) (hk : k < m) (now : Int) : killE (onTo m) k 0 = 0 ∧ killL (onTo m) k 0 now = butOne m k now := by
  have hv : validB (onTo m) k 0 = true := by simp [validB, onTo, hk]; omega
  unfold killE killL
  rw [hv, if_pos (by omega)]
  exact ⟨rfl, by simp [butOne, RowKit.wrap64]⟩
theorem butOne_kill (m k : Nat) (hm : m ≤ 64) (hk : k < m) (now ep now' : Int) : killE (butOne m k now) k ep = 7 ∧ killL (butOne m k now) k ep now' = butOne m k now := by
  have hv : validB (butOne m k now) k ep = false := by simp [validB, butOne, upd]
  unfold killE killL
  rw [hv, if_pos (by omega)]
  exact ⟨rfl, rfl⟩
theorem butOne_full (k : Nat) (now fl : Int) (h : ¬ now < fl) : take0 (butOne 64 k now) fl = 0 ∧ take1 (butOne 64 k now) fl = 0 ∧ take2 (butOne 64 k now) fl = 2 ∧ takeL (butOne 64 k now) fl = butOne 64 k now :=
  take_none _ _ fun j hj => by
    by_cases e : j = k
    · simp [mayB, butOne, upd, e]; omega
    · simp [mayB, butOne, upd, e, onTo, hj]
def again (k : Nat) (now : Int) : Nat → Id := upd (butOne 64 k now) k ⟨true, 1, true, now⟩
theorem butOne_take (k : Nat) (hk : k < 64) (now fl : Int) (h : now < fl) : take0 (butOne 64 k now) fl = k ∧ take1 (butOne 64 k now) fl = 1 ∧ take2 (butOne 64 k now) fl = 0 ∧ takeL (butOne 64 k now) fl = again k now := by
  have hb : butOne 64 k now k = ⟨false, 1, true, now⟩ := by simp [butOne, upd]
  have hlo : ∀ j, j < k → mayB (butOne 64 k now j) fl = false := by
    intro j hj
    have e : ¬ j = k := by omega
    have e2 : j < 64 := by omega
    simp [mayB, butOne, upd, e, onTo, e2]
  obtain ⟨h0, h1, h2, h3⟩ := take_at (butOne 64 k now) fl k hk (by simp [mayB, butOne, upd, h]) hlo
  exact ⟨h0, by rw [h1, hb], h2, by rw [h3, hb]; rfl⟩
theorem cntF_congr (L M : Nat → Id) (n : Nat) (h : ∀ j, j < n → (L j).on = (M j).on) : cntF L n = cntF M n := by
  induction n with
  | zero => rfl
  | succ n ih => simp only [cntF]; rw [ih fun j hj => h j (by omega), h n (by omega)]
theorem cntF_all (L : Nat → Id) (n : Nat) (h : ∀ j, j < n → (L j).on = true) : cntF L n = n := by
  induction n with
  | zero => rfl
  | succ n ih => simp only [cntF]; rw [ih fun j hj => h j (by omega), h n (by omega)]; simp
theorem again_count (k : Nat) (now : Int) : cntF (again k now) 64 = 64 := by
  refine cntF_all _ _ fun j hj => ?_
  by_cases e : j = k
  · simp [again, upd, e]
  · simp [again, butOne, upd, e, onTo, hj]
theorem onTo_count (m n : Nat) : cntF (onTo m) n = min m n := by
  induction n with
  | zero => simp [cntF]
  | succ n ih =>
    simp only [cntF]; rw [ih]
    by_cases h : n < m
    · simp [onTo, h]; omega
    · simp [onTo, h]; omega
theorem butOne_countF (m k : Nat) (now : Int) (n : Nat) (hk : k < m) : cntF (butOne m k now) n + (if k < n then 1 else 0) = min m n := by
  induction n with
  | zero => simp [cntF]
  | succ n ih =>
    simp only [cntF]
    by_cases e : n = k
    · subst e
      have : (butOne m n now n).on = false := by simp [butOne, upd]
      rw [this]; simp at ih ⊢; omega
    · have e1 : (butOne m k now n).on = decide (n < m) := by simp [butOne, upd, e, onTo]
      rw [e1]
      by_cases h1 : k < n
      · have h2 : k < n + 1 := by omega
        simp only [h1, if_true, h2] at ih ⊢
        by_cases h3 : n < m
        · simp [h3]; omega
        · simp [h3]; omega
      · have h2 : ¬ k < n + 1 := by omega
        simp only [h1, if_false, h2] at ih ⊢
        have h3 : n < m := by omega
        simp [h3]; omega
theorem butOne_count (m k : Nat) (now : Int) (hm : m ≤ 64) (hk : k < m) : cntF (butOne m k now) 64 = m - 1 := by
  have := butOne_countF m k now 64 hk
  have h : k < 64 := by omega
  simp only [h, if_true] at this
  omega
theorem butOne_valid (m k : Nat) (now : Int) (j : Nat) (hm : m ≤ 64) (hj : j < m) : validB (butOne m k now) j 0 = !(j == k) ∧ validB (butOne m k now) j 1 = false := by
  have h64 : (j : Int) < 64 := by omega
  by_cases e : j = k
  · subst e; simp [validB, butOne, upd]
  · simp [validB, butOne, upd, e, onTo, hj, h64]

/-- A table of the call's own, and all that lay before as it lay. -/
def St (w : World) (tb sb : Nat) (L : Nat → Id) (wr : World) : Prop := Tab wr tb sb L ∧ Below w.heap.size w wr ∧ w.heap.size ≤ sb
theorem St.step {w a b : World} {tb sb : Nat} {L M : Nat → Id} (h : St w tb sb L a) (t : Tab b tb sb M) (g : a.grownBy b (some sb)) : St w tb sb M b :=
  ⟨t, h.2.1.grown g h.2.1.size (fun k hk => by cases hk; exact h.2.2), h.2.2⟩
theorem St.kept {w a b : World} {tb sb : Nat} {L : Nat → Id} (h : St w tb sb L a) (k : Kept a b) : St w tb sb L b :=
  ⟨h.1.kept k, h.2.1.trans (Below.mono k h.2.1.size), h.2.2⟩
end Go.Proofs.Ytnmkejdepmijeaa.C

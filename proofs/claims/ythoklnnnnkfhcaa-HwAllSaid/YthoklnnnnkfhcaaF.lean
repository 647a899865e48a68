/- Plain facts on lines: each leads to one place at most. -/
import Derived.Test.YthoklnnnnkfhcaaS
namespace Go.Proofs.Ythoklnnnnkfhcaa.C
open Go.RowKit Go.Maps

def sumH (M : Nat → Option Int) (m : Nat) : Nat → Nat
  | 0 => 0
  | k + 1 => sumH M m k + hasF M (k : Int) m
def oneH (M : Nat → Option Int) (m : Nat) : Nat → Nat
  | 0 => 0
  | k + 1 => oneH M m k + if M m = some (k : Int) then 1 else 0
theorem oneH_le (M : Nat → Option Int) (m : Nat) : ∀ k, oneH M m k ≤ 1 ∧ (oneH M m k = 0 ∨ ∃ x : Nat, x < k ∧ M m = some (x : Int)) := by
  intro k
  induction k with
  | zero => exact ⟨by simp [oneH], .inl rfl⟩
  | succ k ih =>
    simp only [oneH]
    by_cases h : M m = some (k : Int)
    · rw [if_pos h]
      rcases ih.2 with h0 | ⟨x, hx, hm⟩
      · exact ⟨by omega, .inr ⟨k, by omega, h⟩⟩
      · rw [h] at hm; injection hm with hm; omega
    · rw [if_neg h]
      refine ⟨ih.1, ?_⟩
      rcases ih.2 with h0 | ⟨x, hx, hm⟩
      · exact .inl h0
      · exact .inr ⟨x, by omega, hm⟩
theorem sumH_succ (M : Nat → Option Int) (m : Nat) : ∀ k, sumH M (m + 1) k = sumH M m k + oneH M m k := by
  intro k
  induction k with
  | zero => rfl
  | succ k ih => simp only [sumH, oneH, hasF]; omega
theorem sumH_zero (M : Nat → Option Int) : ∀ k, sumH M 0 k = 0 := by
  intro k
  induction k with
  | zero => rfl
  | succ k ih => simp only [sumH, hasF]; omega
theorem sumH_le (M : Nat → Option Int) (k : Nat) : ∀ m, sumH M m k ≤ m := by
  intro m
  induction m with
  | zero => rw [sumH_zero]; exact Nat.le_refl _
  | succ m ih => rw [sumH_succ]; have := (oneH_le M m k).1; omega

theorem one_in (M : Nat → Option Int) (line f g : Int) (h : atOk line f) :
    atE (deM M line) line f = 0 ∧ (atE (atM (deM M line) line f) line g = 10 ∨ atE (atM (deM M line) line f) line g = 1) ∧ ofE (atM (atM (deM M line) line f) line g) line = 0 ∧
    ofF (atM (atM (deM M line) line f) line g) line = f ∧ ofE (deM (atM (atM (deM M line) line f) line g) line) line = 3 := by
  have hr : 0 ≤ line ∧ line < 8 := ⟨h.1, h.2.1⟩
  have e1 : (deM M line) line.toNat = none := by unfold deM; rw [if_pos hr]; simp [updM]
  have e2 : (atM (deM M line) line f) = updM (deM M line) line.toNat (some f) := by unfold atM; rw [if_pos ⟨h, by rw [e1]; rfl⟩]
  have e3 : (atM (deM M line) line f) line.toNat = some f := by rw [e2]; simp [updM]
  have e4 : atM (atM (deM M line) line f) line g = atM (deM M line) line f :=
    if_neg (fun hc => by have hh := hc.2; rw [e3] at hh; simp at hh)
  refine ⟨?_, ?_, ?_, ?_, ?_⟩
  · unfold atE; rw [if_pos h, e1]; rfl
  · unfold atE; rw [e3]; by_cases hg : atOk line g
    · rw [if_pos hg]; exact .inl rfl
    · rw [if_neg hg]; exact .inr rfl
  · rw [e4]; unfold ofE; rw [if_pos hr, e3]
  · rw [e4]; unfold ofF; rw [if_pos hr, e3]
  · unfold ofE deM; rw [if_pos hr, if_pos hr]; simp [updM]

theorem one_out (M : Nat → Option Int) (line f g : Int) (h : ¬ atOk line f) :
    atE (deM M line) line f = 1 ∧ ((atE (atM (deM M line) line f) line g = 0 ∧ ofE (atM (atM (deM M line) line f) line g) line = 0) ∨
      (atE (atM (deM M line) line f) line g = 1 ∧ (ofE (atM (atM (deM M line) line f) line g) line = 1 ∨ ofE (atM (atM (deM M line) line f) line g) line = 3))) := by
  have e2 : atM (deM M line) line f = deM M line := if_neg (fun hc => h hc.1)
  refine ⟨if_neg h, ?_⟩
  rw [e2]
  by_cases hr : 0 ≤ line ∧ line < 8
  · have e1 : (deM M line) line.toNat = none := by unfold deM; rw [if_pos hr]; simp [updM]
    by_cases hg : atOk line g
    · left
      refine ⟨by unfold atE; rw [if_pos hg, e1]; rfl, ?_⟩
      have e3 : atM (deM M line) line g = updM (deM M line) line.toNat (some g) := by unfold atM; rw [if_pos ⟨hg, by rw [e1]; rfl⟩]
      rw [e3]; unfold ofE; rw [if_pos hr]; simp [updM]
    · right
      have e3 : atM (deM M line) line g = deM M line := if_neg (fun hc => hg hc.1)
      refine ⟨if_neg hg, .inr ?_⟩
      rw [e3]; unfold ofE; rw [if_pos hr, e1]
  · right
    have hg : ¬ atOk line g := fun hc => hr ⟨hc.1, hc.2.1⟩
    refine ⟨if_neg hg, .inl ?_⟩
    unfold ofE; rw [if_neg hr]

structure St (w : World) (n : Nat) (M : Nat → Option Int) (wr : World) : Prop where
  t : Lns wr (w.heap.size + 1) w.heap.size n M
  bel : Below w.heap.size w wr
theorem St.step {w a b : World} {n m : Nat} {L M : Nat → Option Int} (h : St w n L a) (t : Lns b (w.heap.size + 1) w.heap.size m M) (g : a.grownBy b (some w.heap.size)) : St w m M b :=
  ⟨t, h.bel.grown g h.bel.size (fun k hk => by cases hk; exact Nat.le_refl _)⟩
theorem St.kept {w a b : World} {n : Nat} {L : Nat → Option Int} (h : St w n L a) (k : Kept a b) : St w n L b := ⟨h.t.kept k, h.bel.trans (Below.mono k h.bel.size)⟩
end Go.Proofs.Ythoklnnnnkfhcaa.C

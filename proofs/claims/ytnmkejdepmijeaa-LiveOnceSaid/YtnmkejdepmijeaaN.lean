/- Contracts of package live's methods that write. -/
import Derived.Test.YtnmkejdepmijeaaM
namespace Go.Proofs.Ytnmkejdepmijeaa.C
open Go.RowKit

theorem idxF_lt (p : Nat → Bool) : ∀ n i, idxF p n i = -1 ∨ (∃ k : Nat, idxF p n i = k ∧ i ≤ k ∧ k < i + n ∧ p k = true ∧ ∀ j, i ≤ j → j < k → p j = false) := by
  intro n
  induction n with
  | zero => intro i; exact .inl rfl
  | succ n ih =>
    intro i
    cases hp : p i
    · rw [show idxF p (n + 1) i = idxF p n (i + 1) from by simp [idxF, hp]]
      rcases ih (i + 1) with h | ⟨k, h1, h2, h3, h4, h5⟩
      · exact .inl h
      · refine .inr ⟨k, h1, by omega, by omega, h4, fun j hj hk => ?_⟩
        by_cases e : j = i
        · rw [e]; exact hp
        · exact h5 j (by omega) hk
    · rw [show idxF p (n + 1) i = (i : Int) from by simp [idxF, hp]]
      exact .inr ⟨i, rfl, by omega, by omega, hp, fun j hj hk => by omega⟩

def takeI (L : Nat → Id) (fl : Int) : Int := idxF (fun i => mayB (L i) fl) 64 0
def take1 (L : Nat → Id) (fl : Int) : Int := if takeI L fl < 0 then 0 else (L (takeI L fl).toNat).ep
def take0 (L : Nat → Id) (fl : Int) : Int := if takeI L fl < 0 then 0 else takeI L fl
def take2 (L : Nat → Id) (fl : Int) : Int := if takeI L fl < 0 then 2 else 0
def takeL (L : Nat → Id) (fl : Int) : Nat → Id := if takeI L fl < 0 then L else upd L (takeI L fl).toNat { L (takeI L fl).toNat with on := true }

theorem addr_ne {a b c d : Nat} (h : a ≠ b ∨ c ≠ d) : (⟨a, c, none⟩ : Addr) ≠ ⟨b, d, none⟩ := by
  intro e; injection e with e1 e2; rcases h with h | h
  · exact h e1
  · exact h e2

theorem Tab.setOn {w : World} {tb sb : Nat} {L : Nat → Id} (h : Tab w tb sb L) (i : Nat) (hi : i < 64) (b : Bool) : Tab (w.setCell ⟨sb, i * 4, none⟩ (.bool b)) tb sb (upd L i { L i with on := b }) := by
  refine ⟨h.ne, ?_, ?_, ?_, ?_, ?_, ?_⟩
  · rw [World.cell?_setCell_other _ _ _ _ (addr_ne (.inl h.ne.symm))]; exact h.hd
  · intro j hj
    by_cases e : j = i
    · subst e
      rw [World.cell?_setCell_same _ _ _ (h.c0 j hj)]; simp [upd]
    · rw [World.cell?_setCell_other _ _ _ _ (addr_ne (.inr (by omega)))]; simp [upd, e, h.c0 j hj]
  · intro j hj
    rw [World.cell?_setCell_other _ _ _ _ (addr_ne (.inr (by omega))), h.c1 j hj]
    by_cases e : j = i
    · subst e; simp [upd]
    · simp [upd, e]
  · intro j hj
    rw [World.cell?_setCell_other _ _ _ _ (addr_ne (.inr (by omega))), h.c2 j hj]
    by_cases e : j = i
    · subst e; simp [upd]
    · simp [upd, e]
  · intro j hj
    rw [World.cell?_setCell_other _ _ _ _ (addr_ne (.inr (by omega))), h.c3 j hj]
    by_cases e : j = i
    · subst e; simp [upd]
    · simp [upd, e]
  · intro o; rw [World.frozen?_setCell]; exact h.fz o

theorem grownBy_setCell (w : World) (p : Addr) (u : Value) : w.grownBy (w.setCell p u) (some p.block) :=
  ⟨rfl, rfl, rfl, by simp [World.setCell], fun k _ hne => Below.heap_setCell _ _ _ _ (fun e => hne (by rw [e]))⟩
theorem grownBy_kept {w w' : World} (h : Kept w w') (row : Option Nat) : w.grownBy w' row := ⟨h.os, h.tape, h.output, h.size, fun k hk _ => h.block k hk⟩
set_option maxHeartbeats 400000 in
theorem take_c (w : World) (tb sb : Nat) (L : Nat → Id) (fl : Int) (h : Tab w tb sb L) :
    Calls Try.prog 10 #[.pointer (some ⟨tb, 0, none⟩), .int .i64 fl] w fun e w' => e = .returned (.tuple #[.int .i64 (take0 L fl), .int .i64 (take1 L fl), .int .i64 (take2 L fl)]) ∧ Tab w' tb sb (takeL L fl) ∧ w.grownBy w' (some sb) := by
  have H := Lib.hid h
  have hd := h.hd
  have hlt := h.ltt
  have hne : ¬ tb = w.heap.size := by omega
  clear h
  rcases idxF_lt (fun i => mayB (L i) fl) 64 0 with hi | ⟨k, hi, -, hk, -, -⟩
  · have e0 : take0 L fl = 0 := if_pos (by unfold takeI; omega)
    have e1 : take1 L fl = 0 := if_pos (by unfold takeI; omega)
    have e2 : take2 L fl = 2 := if_pos (by unfold takeI; omega)
    have e3 : takeL L fl = L := if_pos (by unfold takeI; omega)
    rw [e0, e1, e2, e3]
    have HI := Lib.hid hi
    clear e0 e1 e2 e3 hi
    go_enter Try.func10, Try.ntmps10
    go_wp2_with fail
    refine (none_c _ tb sb L (H.out.kept ((Kept.refl _).alloc _))).mono ?_
    rintro e w' ⟨rfl, rfl⟩
    go_wp2_with fail
    refine (index_c _ tb sb w.heap.size L fl (H.out.kept ((Kept.refl _).alloc _)) ?_).mono ?_
    · simp
    rintro e w1 ⟨rfl, hk1⟩
    rw [HI.out]
    go_wp2_with fail
    go_ret3
    exact ⟨rfl, H.out.kept (((Kept.refl _).alloc _).trans hk1), grownBy_kept (((Kept.refl _).alloc _).trans hk1) _⟩
  · have e0 : take0 L fl = k := by unfold take0 takeI; rw [hi, if_neg (by omega)]
    have e1 : take1 L fl = (L k).ep := by unfold take1 takeI; rw [hi, if_neg (by omega)]; rfl
    have e2 : take2 L fl = 0 := by unfold take2 takeI; rw [hi, if_neg (by omega)]
    have e3 : takeL L fl = upd L k { L k with on := true } := by unfold takeL takeI; rw [hi, if_neg (by omega)]; rfl
    rw [e0, e1, e2, e3]
    have HI := Lib.hid hi
    clear e0 e1 e2 e3 hi
    go_enter Try.func10, Try.ntmps10
    go_wp2_with fail
    refine (none_c _ tb sb L (H.out.kept ((Kept.refl _).alloc _))).mono ?_
    rintro e w' ⟨rfl, rfl⟩
    go_wp2_with fail
    refine (index_c _ tb sb w.heap.size L fl (H.out.kept ((Kept.refl _).alloc _)) ?_).mono ?_
    · simp
    rintro e w1 ⟨rfl, hk1⟩
    rw [HI.out]
    have hK := Lib.hid (((Kept.refl w).alloc _).trans hk1)
    have hT := H.out.kept hK.out
    have HT := Lib.hid hT
    have hd1 := hT.hd
    have c1 := hT.c1 k hk
    have c0 := hT.c0 k hk
    have fz := hT.fz (k * 4)
    have hne2 := H.out.ne
    clear hd hk1 hT
    go_wp2_with fail
    have hS := HT.out.setOn k hk true
    have hG := (grownBy_kept hK.out (some sb)).trans (grownBy_setCell w1 ⟨sb, k * 4, none⟩ (.bool true))
    generalize w1.setCell ⟨sb, k * 4, none⟩ (.bool true) = W2 at hS hG ⊢
    have d1 := hS.hd
    have d2 := hS.c1 k hk
    rw [show (upd L k { L k with on := true } k).ep = (L k).ep from by simp [upd]] at d2
    have HS := Lib.hid hS
    clear hd1 c1 c0 fz hS
    go_quiet (fail)
    go_wp2
    go_ret3
    exact ⟨rfl, HS.out.kept ((Kept.refl _).drewN _), hG.trans (grownBy_kept ((Kept.refl _).drewN _) _)⟩

def killE (L : Nat → Id) (i ep : Int) : Int := if 0 ≤ i ∧ i < 64 then (if validB L i ep then 0 else 7) else 1
def killL (L : Nat → Id) (i ep now : Int) : Nat → Id := if validB L i ep then upd L i.toNat ⟨false, wrap64 (ep + 1), true, now⟩ else L

theorem Tab.setAll {w : World} {tb sb : Nat} {L : Nat → Id} (h : Tab w tb sb L) (i : Nat) (hi : i < 64) (x : Id) :
    Tab ((((w.setCell ⟨sb, i * 4, none⟩ (.bool x.on)).setCell ⟨sb, i * 4 + 1, none⟩ (.int .i64 x.ep)).setCell ⟨sb, i * 4 + 2, none⟩ (.bool x.kd)).setCell ⟨sb, i * 4 + 3, none⟩ (.int .i64 x.tm)) tb sb (upd L i x) := by
  have O : ∀ (W : World) (v : Value) (a b : Nat), a ≠ b → (W.setCell ⟨sb, a, none⟩ v).cell? ⟨sb, b, none⟩ = W.cell? ⟨sb, b, none⟩ := fun W v a b e => World.cell?_setCell_other _ _ _ _ (addr_ne (.inr e))
  have S : ∀ (W : World) (v u : Value) (a : Nat), W.cell? ⟨sb, a, none⟩ = some u → (W.setCell ⟨sb, a, none⟩ v).cell? ⟨sb, a, none⟩ = some v := fun W v u a e => World.cell?_setCell_same _ _ _ e
  refine ⟨h.ne, ?_, ?_, ?_, ?_, ?_, ?_⟩
  · repeat rw [World.cell?_setCell_other _ _ _ _ (addr_ne (.inl h.ne.symm))]
    exact h.hd
  · intro j hj
    by_cases e : j = i
    · subst e
      rw [O _ _ _ _ (by omega), O _ _ _ _ (by omega), O _ _ _ _ (by omega), S _ _ _ _ (h.c0 j hj)]; simp [upd]
    · rw [O _ _ _ _ (by omega), O _ _ _ _ (by omega), O _ _ _ _ (by omega), O _ _ _ _ (by omega), h.c0 j hj]; simp [upd, e]
  · intro j hj
    by_cases e : j = i
    · subst e
      rw [O _ _ _ _ (by omega), O _ _ _ _ (by omega), S _ _ _ _ ((O _ _ _ _ (by omega)).trans (h.c1 j hj))]; simp [upd]
    · rw [O _ _ _ _ (by omega), O _ _ _ _ (by omega), O _ _ _ _ (by omega), O _ _ _ _ (by omega), h.c1 j hj]; simp [upd, e]
  · intro j hj
    by_cases e : j = i
    · subst e
      rw [O _ _ _ _ (by omega), S _ _ _ _ ((O _ _ _ _ (by omega)).trans ((O _ _ _ _ (by omega)).trans (h.c2 j hj)))]; simp [upd]
    · rw [O _ _ _ _ (by omega), O _ _ _ _ (by omega), O _ _ _ _ (by omega), O _ _ _ _ (by omega), h.c2 j hj]; simp [upd, e]
  · intro j hj
    by_cases e : j = i
    · subst e
      rw [S _ _ _ _ ((O _ _ _ _ (by omega)).trans ((O _ _ _ _ (by omega)).trans ((O _ _ _ _ (by omega)).trans (h.c3 j hj))))]; simp [upd]
    · rw [O _ _ _ _ (by omega), O _ _ _ _ (by omega), O _ _ _ _ (by omega), O _ _ _ _ (by omega), h.c3 j hj]; simp [upd, e]
  · intro o; simp only [World.frozen?_setCell]; exact h.fz o

theorem grownBy_set4 (w : World) (sb a b c d : Nat) (u v x y : Value) :
    w.grownBy ((((w.setCell ⟨sb, a, none⟩ u).setCell ⟨sb, b, none⟩ v).setCell ⟨sb, c, none⟩ x).setCell ⟨sb, d, none⟩ y) (some sb) :=
  ((grownBy_setCell w ⟨sb, a, none⟩ u).trans (grownBy_setCell _ ⟨sb, b, none⟩ v)).trans ((grownBy_setCell _ ⟨sb, c, none⟩ x).trans (grownBy_setCell _ ⟨sb, d, none⟩ y))

set_option maxHeartbeats 400000 in
theorem kill_c (w : World) (tb sb : Nat) (L : Nat → Id) (i ep now : Int) (h : Tab w tb sb L) :
    Calls Try.prog 9 #[.pointer (some ⟨tb, 0, none⟩), .int .i64 i, .int .i64 ep, .int .i64 now] w fun e w' => e = .returned (.int .i64 (killE L i ep)) ∧ Tab w' tb sb (killL L i ep now) ∧ w.grownBy w' (some sb) := by
  have H := Lib.hid h
  have hd := h.hd
  have hv0 : ¬ (0 ≤ i ∧ i < 64) → validB L i ep = false := by
    intro hn; unfold validB
    by_cases h1 : 0 ≤ i
    · have : ¬ i < 64 := by omega
      simp [this]
    · simp [h1]
  by_cases h1 : 0 ≤ i
  · by_cases h2 : i < 64
    · have eE : killE L i ep = if validB L i ep then 0 else 7 := by unfold killE; rw [if_pos ⟨h1, h2⟩]
      clear hv0
      cases hv : validB L i ep
      · have eL : killL L i ep now = L := by unfold killL; rw [hv]; rfl
        rw [eE, eL, hv]
        have HV := Lib.hid hv
        clear h eE eL hv
        go_enter Try.func9, Try.ntmps9
        go_wp2_with (first | (go_at_call 19; refine (none_c _ tb sb L H.out).mono ?_; rintro e w' ⟨rfl, rfl⟩) | (go_at_call 11; refine (valid_c _ tb sb L _ _ H.out).mono ?_; rw [HV.out]; rintro e w' ⟨rfl, rfl⟩))
        go_ret
        exact ⟨rfl, H.out, grownBy_kept (Kept.refl _) _⟩
      · obtain ⟨k, rfl⟩ : ∃ k : Nat, i = k := ⟨i.toNat, by omega⟩
        have eL : killL L k ep now = upd L k ⟨false, wrap64 (ep + 1), true, now⟩ := by unfold killL; rw [hv]; rfl
        rw [eE, eL, hv]
        have HV := Lib.hid hv
        have c0 := h.c0 k (by omega)
        have c1 := h.c1 k (by omega)
        have c2 := h.c2 k (by omega)
        have c3 := h.c3 k (by omega)
        have f0 := h.fz (k * 4)
        have f1 := h.fz (k * 4 + 1)
        have f2 := h.fz (k * 4 + 2)
        have f3 := h.fz (k * 4 + 3)
        have hne2 := h.ne
        clear h eE eL hv
        go_enter Try.func9, Try.ntmps9
        go_wp2_with (first | (go_at_call 19; refine (none_c _ tb sb L H.out).mono ?_; rintro e w' ⟨rfl, rfl⟩) | (go_at_call 11; refine (valid_c _ tb sb L _ _ H.out).mono ?_; rw [HV.out]; rintro e w' ⟨rfl, rfl⟩))
        go_ret
        exact ⟨rfl, H.out.setAll k (by omega) ⟨false, wrap64 (ep + 1), true, now⟩, grownBy_set4 w sb _ _ _ _ _ _ _ _⟩
    · have eE : killE L i ep = 1 := by unfold killE; rw [if_neg (by omega)]
      have eL : killL L i ep now = L := by unfold killL; rw [hv0 (by omega)]; rfl
      rw [eE, eL]
      clear h eE eL hv0
      go_enter Try.func9, Try.ntmps9
      go_wp2_with (first | (go_at_call 19; refine (none_c _ tb sb L H.out).mono ?_; rintro e w' ⟨rfl, rfl⟩))
      go_ret
      exact ⟨rfl, H.out, grownBy_kept (Kept.refl _) _⟩
  · have eE : killE L i ep = 1 := by unfold killE; rw [if_neg (by omega)]
    have eL : killL L i ep now = L := by unfold killL; rw [hv0 (by omega)]; rfl
    rw [eE, eL]
    clear h eE eL hv0
    go_enter Try.func9, Try.ntmps9
    go_wp2_with (first | (go_at_call 19; refine (none_c _ tb sb L H.out).mono ?_; rintro e w' ⟨rfl, rfl⟩))
    go_ret
    exact ⟨rfl, H.out, grownBy_kept (Kept.refl _) _⟩

/-- How many of n places from i on are on. -/
def cntF (L : Nat → Id) : Nat → Nat
  | 0 => 0
  | n + 1 => cntF L n + if (L n).on then 1 else 0
theorem cntF_le (L : Nat → Id) (n : Nat) : cntF L n ≤ n := by
  induction n with
  | zero => simp [cntF]
  | succ n ih => simp only [cntF]; split <;> omega

set_option maxHeartbeats 400000 in
theorem count_c (w : World) (tb sb : Nat) (L : Nat → Id) (h : Tab w tb sb L) :
    Calls Try.prog 13 #[.pointer (some ⟨tb, 0, none⟩)] w fun e w' => e = .returned (.int .i64 (cntF L 64)) ∧ Kept w w' := by
  have H := Lib.hid h
  have hd := h.hd
  clear h
  go_enter Try.func13, Try.ntmps13
  go_wp2_with (first | (go_at_call 19; refine (none_c _ tb sb L H.out).mono ?_; rintro e w' ⟨rfl, rfl⟩))
  go_loopw [3, 5, 13] (fun n _ i wr => ∃ k : Nat, k ≤ 64 ∧ i = .int .i64 k ∧ n = .int .i64 (cntF L k) ∧ Kept w wr) (fun _ _ i _ => 64 - (intOf i).toNat)
  case atStart => exact ⟨0, by omega, rfl, rfl, Kept.refl _⟩
  case round =>
    obtain ⟨k, hk, rfl, rfl, hkept⟩ := hrel
    have hc := cntF_le L k
    by_cases hlt : k < 64
    · have hT := H.out.kept hkept
      have h0 := hT.c0 k hlt
      have h1 := hT.c1 k hlt
      have h2 := hT.c2 k hlt
      have h3 := hT.c3 k hlt
      have HO : Hid (cntF L (k + 1) = cntF L k + if (L k).on then 1 else 0) := rfl
      clear hT hd
      cases ho : (L k).on
      all_goals
        rw [ho] at h0 HO
        clear ho
        go_wp2
        go_roundw
        case rel => exact ⟨k + 1, by omega, by go_num, by rw [HO.out]; go_num, hkept.alloc _⟩
        case measure => simp [intOf]; omega
    · have hk64 : k = 64 := by omega
      go_wp2
      go_ret
      exact ⟨by rw [hk64]; rfl, hkept⟩
end Go.Proofs.Ytnmkejdepmijeaa.C

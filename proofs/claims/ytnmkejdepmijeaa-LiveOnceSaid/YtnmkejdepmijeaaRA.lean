/- The reference's table of ids, and the contracts of its methods. -/
import Derived.Test.YtnmkejdepmijeaaF
namespace Go.Proofs.Ytnmkejdepmijeaa.C
open Go.RowKit

/-- A table of the reference: its struct in block tb, its 64 ids in block sb. -/
structure RTab (w : World) (tb sb cap : Nat) (L : Nat → Id) : Prop where
  ne : tb ≠ sb
  hd : w.cell? ⟨tb, 0, none⟩ = some (.slice (some ⟨sb, 0, none⟩) 64 cap)
  c0 : ∀ i : Nat, i < 64 → w.cell? ⟨sb, i * 4, none⟩ = some (.bool (L i).on)
  c1 : ∀ i : Nat, i < 64 → w.cell? ⟨sb, i * 4 + 1, none⟩ = some (.int .i64 (L i).ep)
  c2 : ∀ i : Nat, i < 64 → w.cell? ⟨sb, i * 4 + 2, none⟩ = some (.bool (L i).kd)
  c3 : ∀ i : Nat, i < 64 → w.cell? ⟨sb, i * 4 + 3, none⟩ = some (.int .i64 (L i).tm)
  fz : ∀ o, w.frozen? ⟨sb, o, none⟩ = false

theorem RTab.lt {w : World} {tb sb cap : Nat} {L : Nat → Id} (h : RTab w tb sb cap L) : sb < w.heap.size := World.block_lt_of_cell? w _ (h.c0 0 (by omega))
theorem RTab.ltt {w : World} {tb sb cap : Nat} {L : Nat → Id} (h : RTab w tb sb cap L) : tb < w.heap.size := World.block_lt_of_cell? w _ h.hd

theorem RTab.kept {w w' : World} {tb sb cap : Nat} {L : Nat → Id} (h : RTab w tb sb cap L) (k : Kept w w') : RTab w' tb sb cap L :=
  ⟨h.ne, k.cell h.hd, fun i hi => k.cell (h.c0 i hi), fun i hi => k.cell (h.c1 i hi), fun i hi => k.cell (h.c2 i hi), fun i hi => k.cell (h.c3 i hi), fun o => (k.frozen h.lt).trans (h.fz o)⟩

theorem RTab.setOn {w : World} {tb sb cap : Nat} {L : Nat → Id} (h : RTab w tb sb cap L) (i : Nat) (hi : i < 64) (b : Bool) : RTab (w.setCell ⟨sb, i * 4, none⟩ (.bool b)) tb sb cap (upd L i { L i with on := b }) := by
  refine ⟨h.ne, ?_, ?_, ?_, ?_, ?_, ?_⟩
  · rw [World.cell?_setCell_other _ _ _ _ (addr_ne (.inl h.ne.symm))]; exact h.hd
  · intro j hj
    by_cases e : j = i
    · subst e
      rw [World.cell?_setCell_same _ _ _ (h.c0 j hj)]; simp [upd]
    · rw [World.cell?_setCell_other _ _ _ _ (addr_ne (.inr (by omega)))]; simp [upd, e, h.c0 j hj]
  · intro j hj
    rw [World.cell?_setCell_other _ _ _ _ (addr_ne (.inr (by omega))), h.c1 j hj]
    by_cases e : j = i
    · subst e; simp [upd]
    · simp [upd, e]
  · intro j hj
    rw [World.cell?_setCell_other _ _ _ _ (addr_ne (.inr (by omega))), h.c2 j hj]
    by_cases e : j = i
    · subst e; simp [upd]
    · simp [upd, e]
  · intro j hj
    rw [World.cell?_setCell_other _ _ _ _ (addr_ne (.inr (by omega))), h.c3 j hj]
    by_cases e : j = i
    · subst e; simp [upd]
    · simp [upd, e]
  · intro o; rw [World.frozen?_setCell]; exact h.fz o

theorem RTab.setAll {w : World} {tb sb cap : Nat} {L : Nat → Id} (h : RTab w tb sb cap L) (i : Nat) (hi : i < 64) (x : Id) :
    RTab ((((w.setCell ⟨sb, i * 4, none⟩ (.bool x.on)).setCell ⟨sb, i * 4 + 1, none⟩ (.int .i64 x.ep)).setCell ⟨sb, i * 4 + 2, none⟩ (.bool x.kd)).setCell ⟨sb, i * 4 + 3, none⟩ (.int .i64 x.tm)) tb sb cap (upd L i x) := by
  have O : ∀ (W : World) (v : Value) (a b : Nat), a ≠ b → (W.setCell ⟨sb, a, none⟩ v).cell? ⟨sb, b, none⟩ = W.cell? ⟨sb, b, none⟩ := fun W v a b e => World.cell?_setCell_other _ _ _ _ (addr_ne (.inr e))
  have S : ∀ (W : World) (v u : Value) (a : Nat), W.cell? ⟨sb, a, none⟩ = some u → (W.setCell ⟨sb, a, none⟩ v).cell? ⟨sb, a, none⟩ = some v := fun W v u a e => World.cell?_setCell_same _ _ _ e
  refine ⟨h.ne, ?_, ?_, ?_, ?_, ?_, ?_⟩
  · repeat rw [World.cell?_setCell_other _ _ _ _ (addr_ne (.inl h.ne.symm))]
    exact h.hd
  · intro j hj
    by_cases e : j = i
    · subst e
      rw [O _ _ _ _ (by omega), O _ _ _ _ (by omega), O _ _ _ _ (by omega), S _ _ _ _ (h.c0 j hj)]; simp [upd]
    · rw [O _ _ _ _ (by omega), O _ _ _ _ (by omega), O _ _ _ _ (by omega), O _ _ _ _ (by omega), h.c0 j hj]; simp [upd, e]
  · intro j hj
    by_cases e : j = i
    · subst e
      rw [O _ _ _ _ (by omega), O _ _ _ _ (by omega), S _ _ _ _ ((O _ _ _ _ (by omega)).trans (h.c1 j hj))]; simp [upd]
    · rw [O _ _ _ _ (by omega), O _ _ _ _ (by omega), O _ _ _ _ (by omega), O _ _ _ _ (by omega), h.c1 j hj]; simp [upd, e]
  · intro j hj
    by_cases e : j = i
    · subst e
      rw [O _ _ _ _ (by omega), S _ _ _ _ ((O _ _ _ _ (by omega)).trans ((O _ _ _ _ (by omega)).trans (h.c2 j hj)))]; simp [upd]
    · rw [O _ _ _ _ (by omega), O _ _ _ _ (by omega), O _ _ _ _ (by omega), O _ _ _ _ (by omega), h.c2 j hj]; simp [upd, e]
  · intro j hj
    by_cases e : j = i
    · subst e
      rw [S _ _ _ _ ((O _ _ _ _ (by omega)).trans ((O _ _ _ _ (by omega)).trans ((O _ _ _ _ (by omega)).trans (h.c3 j hj))))]; simp [upd]
    · rw [O _ _ _ _ (by omega), O _ _ _ _ (by omega), O _ _ _ _ (by omega), O _ _ _ _ (by omega), h.c3 j hj]; simp [upd, e]
  · intro o; simp only [World.frozen?_setCell]; exact h.fz o


theorem RTab.grown {w w' : World} {tb sb cap : Nat} {L : Nat → Id} (h : RTab w tb sb cap L) {row : Option Nat} (g : w.grownBy w' row) (h1 : row ≠ some tb) (h2 : row ≠ some sb) : RTab w' tb sb cap L :=
  ⟨h.ne, g.cell h.hd (fun e => h1 e.symm), fun i hi => g.cell (h.c0 i hi) (fun e => h2 e.symm), fun i hi => g.cell (h.c1 i hi) (fun e => h2 e.symm), fun i hi => g.cell (h.c2 i hi) (fun e => h2 e.symm), fun i hi => g.cell (h.c3 i hi) (fun e => h2 e.symm),
    fun o => (World.frozen?_of_block (a := ⟨sb, o, none⟩) (g.block sb h.lt (fun e => h2 e.symm))).trans (h.fz o)⟩
theorem Tab.grown {w w' : World} {tb sb : Nat} {L : Nat → Id} (h : Tab w tb sb L) {row : Option Nat} (g : w.grownBy w' row) (h1 : row ≠ some tb) (h2 : row ≠ some sb) : Tab w' tb sb L :=
  ⟨h.ne, g.cell h.hd (fun e => h1 e.symm), fun i hi => g.cell (h.c0 i hi) (fun e => h2 e.symm), fun i hi => g.cell (h.c1 i hi) (fun e => h2 e.symm), fun i hi => g.cell (h.c2 i hi) (fun e => h2 e.symm), fun i hi => g.cell (h.c3 i hi) (fun e => h2 e.symm),
    fun o => (World.frozen?_of_block (a := ⟨sb, o, none⟩) (g.block sb h.lt (fun e => h2 e.symm))).trans (h.fz o)⟩

theorem rvalid_c (w : World) (tb sb cap : Nat) (L : Nat → Id) (i ep : Int) (h : RTab w tb sb cap L) :
    Calls Try.prog 17 #[.pointer (some ⟨tb, 0, none⟩), .int .i64 i, .int .i64 ep] w fun e w' => e = .returned (.bool (validB L i ep)) ∧ w = w' := by
  have hd := h.hd
  by_cases h1 : 0 ≤ i
  · by_cases h2 : i < 64
    · obtain ⟨k, rfl⟩ : ∃ k : Nat, i = k := ⟨i.toNat, by omega⟩
      have c0 := h.c0 k (by omega)
      have c1 := h.c1 k (by omega)
      clear h
      have hv : validB L k ep = ((L k).on && ((L k).ep == ep)) := by simp [validB, h2]
      cases ho : (L k).on
      all_goals
        rw [ho] at c0 hv
        rw [hv]
        clear hv ho
        go_enter Try.func17, Try.ntmps17
        go_wp2
        go_ret
        exact ⟨rfl, rfl⟩
    · rw [show validB L i ep = false from by simp [validB, h2]]
      clear h
      go_enter Try.func17, Try.ntmps17
      go_wp2
      go_ret
      exact ⟨rfl, rfl⟩
  · rw [show validB L i ep = false from by simp [validB, h1]]
    clear h
    go_enter Try.func17, Try.ntmps17
    go_wp2
    go_ret
    exact ⟨rfl, rfl⟩

set_option maxHeartbeats 400000 in
theorem rcount_c (w : World) (tb sb cap : Nat) (L : Nat → Id) (h : RTab w tb sb cap L) :
    Calls Try.prog 18 #[.pointer (some ⟨tb, 0, none⟩)] w fun e w' => e = .returned (.int .i64 (cntF L 64)) ∧ w = w' := by
  have H := Lib.hid h
  have hd := h.hd
  clear h
  go_enter Try.func18, Try.ntmps18
  go_wp2
  go_loop [3, 4] (fun n i => ∃ k : Nat, k ≤ 64 ∧ i = .int .i64 k ∧ n = .int .i64 (cntF L k)) (fun _ i => 64 - (intOf i).toNat)
  case atStart => exact ⟨0, by omega, rfl, rfl⟩
  case round =>
    obtain ⟨k, hk, rfl, rfl⟩ := hrel
    have hc := cntF_le L k
    by_cases hlt : k < 64
    · have h0 := H.out.c0 k hlt
      have HO : Hid (cntF L (k + 1) = cntF L k + if (L k).on then 1 else 0) := rfl
      cases ho : (L k).on
      all_goals
        rw [ho] at h0 HO
        clear ho
        go_wp2
        go_round
        case rel => exact ⟨k + 1, by omega, by go_num, by rw [HO.out]; go_num⟩
        case measure => simp [intOf]; omega
    · have hk64 : k = 64 := by omega
      go_wp2
      go_ret
      exact ⟨by first | rfl | (rw [hk64]; rfl), rfl⟩

set_option maxHeartbeats 400000 in
theorem rkill_c (w : World) (tb sb cap : Nat) (L : Nat → Id) (i ep now : Int) (h : RTab w tb sb cap L) :
    Calls Try.prog 15 #[.pointer (some ⟨tb, 0, none⟩), .int .i64 i, .int .i64 ep, .int .i64 now] w fun e w' => e = .returned (.int .i64 (killE L i ep)) ∧ RTab w' tb sb cap (killL L i ep now) ∧ w.grownBy w' (some sb) := by
  have H := Lib.hid h
  have hd := h.hd
  have hv0 : ¬ (0 ≤ i ∧ i < 64) → validB L i ep = false := by
    intro hn; unfold validB
    by_cases h1 : 0 ≤ i
    · have : ¬ i < 64 := by omega
      simp [this]
    · simp [h1]
  by_cases h1 : 0 ≤ i
  · by_cases h2 : i < 64
    · have eE : killE L i ep = if validB L i ep then 0 else 7 := by unfold killE; rw [if_pos ⟨h1, h2⟩]
      clear hv0
      cases hv : validB L i ep
      · have eL : killL L i ep now = L := by unfold killL; rw [hv]; rfl
        rw [eE, eL, hv]
        have HV := Lib.hid hv
        clear h eE eL hv
        go_enter Try.func15, Try.ntmps15
        go_wp2_with (first | (go_at_call 17; refine (rvalid_c _ tb sb cap L _ _ H.out).mono ?_; rw [HV.out]; rintro e w' ⟨rfl, rfl⟩))
        go_ret
        exact ⟨rfl, H.out, grownBy_kept (Kept.refl _) _⟩
      · obtain ⟨k, rfl⟩ : ∃ k : Nat, i = k := ⟨i.toNat, by omega⟩
        have eL : killL L k ep now = upd L k ⟨false, wrap64 (ep + 1), true, now⟩ := by unfold killL; rw [hv]; rfl
        rw [eE, eL, hv]
        have HV := Lib.hid hv
        have c0 := h.c0 k (by omega)
        have c1 := h.c1 k (by omega)
        have c2 := h.c2 k (by omega)
        have c3 := h.c3 k (by omega)
        have f0 := h.fz (k * 4)
        have f1 := h.fz (k * 4 + 1)
        have f2 := h.fz (k * 4 + 2)
        have f3 := h.fz (k * 4 + 3)
        have hne2 := h.ne
        clear h eE eL hv
        go_enter Try.func15, Try.ntmps15
        go_wp2_with (first | (go_at_call 17; refine (rvalid_c _ tb sb cap L _ _ H.out).mono ?_; rw [HV.out]; rintro e w' ⟨rfl, rfl⟩))
        go_ret
        exact ⟨rfl, H.out.setAll k (by omega) ⟨false, wrap64 (ep + 1), true, now⟩, grownBy_set4 w sb _ _ _ _ _ _ _ _⟩
    · have eE : killE L i ep = 1 := by unfold killE; rw [if_neg (by omega)]
      have eL : killL L i ep now = L := by unfold killL; rw [hv0 (by omega)]; rfl
      rw [eE, eL]
      clear h eE eL hv0
      go_enter Try.func15, Try.ntmps15
      go_wp2
      go_ret
      exact ⟨rfl, H.out, grownBy_kept (Kept.refl _) _⟩
  · have eE : killE L i ep = 1 := by unfold killE; rw [if_neg (by omega)]
    have eL : killL L i ep now = L := by unfold killL; rw [hv0 (by omega)]; rfl
    rw [eE, eL]
    clear h eE eL hv0
    go_enter Try.func15, Try.ntmps15
    go_wp2
    go_ret
    exact ⟨rfl, H.out, grownBy_kept (Kept.refl _) _⟩
end Go.Proofs.Ytnmkejdepmijeaa.C

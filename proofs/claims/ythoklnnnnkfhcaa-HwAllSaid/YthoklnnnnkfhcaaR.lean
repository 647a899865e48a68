/- The reference's lines, and the contracts of its methods. -/
import Derived.Test.YthoklnnnnkfhcaaC
import Derived.Maps.AppendAt
import Derived.RangeFuncBox
namespace Go.Proofs.Ythoklnnnnkfhcaa.C
open Go.RowKit Go.Maps

def encO : Option Int → Int
  | none => 0
  | some f => f + 1
/-- Each line leads to a frame that there is. -/
def Fr (M : Nat → Option Int) : Prop := ∀ i f, M i = some f → 0 ≤ f ∧ f < 64
theorem Fr.upd {M : Nat → Option Int} (h : Fr M) (k : Nat) (x : Option Int) (hx : ∀ f, x = some f → 0 ≤ f ∧ f < 64) : Fr (updM M k x) := by
  intro i f hi
  unfold updM at hi
  split at hi
  · exact hx f hi
  · exact h i f hi
theorem Fr.at {M : Nat → Option Int} (h : Fr M) (i f : Int) : Fr (atM M i f) := by
  unfold atM
  split
  · rename_i hc
    exact h.upd _ _ (fun f' e => by injection e with e; subst e; exact ⟨hc.1.2.2.1, hc.1.2.2.2⟩)
  · exact h
theorem Fr.de {M : Nat → Option Int} (h : Fr M) (i : Int) : Fr (deM M i) := by
  unfold deM
  split
  · exact h.upd _ _ (fun f' e => by cases e)
  · exact h

structure RL (w : World) (tb sb cap : Nat) (M : Nat → Option Int) : Prop where
  ne : tb ≠ sb
  hd : w.cell? ⟨tb, 0, none⟩ = some (.slice (some ⟨sb, 0, none⟩) 8 cap)
  c : ∀ i : Nat, i < 8 → w.cell? ⟨sb, i, none⟩ = some (.int .i64 (encO (M i)))
  fz : ∀ o, w.frozen? ⟨sb, o, none⟩ = false
theorem RL.lt {w : World} {tb sb cap : Nat} {M : Nat → Option Int} (h : RL w tb sb cap M) : sb < w.heap.size := World.block_lt_of_cell? w _ (h.c 0 (by omega))
theorem RL.ltt {w : World} {tb sb cap : Nat} {M : Nat → Option Int} (h : RL w tb sb cap M) : tb < w.heap.size := World.block_lt_of_cell? w _ h.hd
theorem RL.kept {w w' : World} {tb sb cap : Nat} {M : Nat → Option Int} (h : RL w tb sb cap M) (k : Kept w w') : RL w' tb sb cap M :=
  ⟨h.ne, k.cell h.hd, fun i hi => k.cell (h.c i hi), fun o => (k.frozen h.lt).trans (h.fz o)⟩
theorem RL.grown {w w' : World} {tb sb cap : Nat} {M : Nat → Option Int} (h : RL w tb sb cap M) {row : Option Nat} (g : w.grownBy w' row) (h1 : row ≠ some tb) (h2 : row ≠ some sb) : RL w' tb sb cap M :=
  ⟨h.ne, g.cell h.hd (fun e => h1 e.symm), fun i hi => g.cell (h.c i hi) (fun e => h2 e.symm),
    fun o => (World.frozen?_of_block (a := ⟨sb, o, none⟩) (g.block sb h.lt (fun e => h2 e.symm))).trans (h.fz o)⟩
theorem RL.set {w : World} {tb sb cap : Nat} {M : Nat → Option Int} (h : RL w tb sb cap M) (k : Nat) (hk : k < 8) (x : Option Int) : RL (w.setCell ⟨sb, k, none⟩ (.int .i64 (encO x))) tb sb cap (updM M k x) := by
  refine ⟨h.ne, ?_, fun i hi => ?_, fun o => ?_⟩
  · rw [World.cell?_setCell_other _ _ _ _ (addr_ne (.inl h.ne.symm))]; exact h.hd
  · by_cases e : i = k
    · subst e
      rw [World.cell?_setCell_same _ _ _ (h.c i hi)]; simp [updM]
    · rw [World.cell?_setCell_other _ _ _ _ (addr_ne (.inr (by omega)))]; simp [updM, e, h.c i hi]
  · rw [World.frozen?_setCell]; exact h.fz o

theorem encO_zero {x : Option Int} (h : ∀ f, x = some f → 0 ≤ f ∧ f < 64) : (encO x == 0) = x.isNone := by
  cases x with
  | none => rfl
  | some f =>
    have := h f rfl
    simp [encO]; omega

theorem rof_c (w : World) (tb sb cap : Nat) (M : Nat → Option Int) (i : Int) (h : RL w tb sb cap M) (hF : Fr M) :
    Calls Try.prog 15 #[.pointer (some ⟨tb, 0, none⟩), .int .i64 i] w fun e w' => e = .returned (.tuple #[.int .i64 (ofF M i), .int .i64 (ofE M i)]) ∧ w = w' := by
  have hd := h.hd
  by_cases h1 : 0 ≤ i
  · by_cases h2 : i < 8
    · obtain ⟨k, rfl⟩ : ∃ k : Nat, i = k := ⟨i.toNat, by omega⟩
      have hc := h.c k (by omega)
      clear h
      cases hM : M k with
      | none =>
        rw [hM] at hc
        have hc' : w.cell? ⟨sb, k, none⟩ = some (.int .i64 0) := hc
        rw [show ofF M k = 0 from by unfold ofF; rw [if_pos ⟨h1, h2⟩]; simp [hM], show ofE M k = 3 from by unfold ofE; rw [if_pos ⟨h1, h2⟩]; simp [hM]]
        clear hc hM hF
        go_enter Try.func15, Try.ntmps15
        go_wp2
        go_ret2
        exact ⟨rfl, rfl⟩
      | some f =>
        rw [hM] at hc
        have hc' : w.cell? ⟨sb, k, none⟩ = some (.int .i64 (f + 1)) := hc
        obtain ⟨f0, f1⟩ := hF k f hM
        rw [show ofF M k = f from by unfold ofF; rw [if_pos ⟨h1, h2⟩]; simp [hM], show ofE M k = 0 from by unfold ofE; rw [if_pos ⟨h1, h2⟩]; simp [hM]]
        clear hc hM hF
        have b1 : (f + 1 == 0) = false := by simp; omega
        have b2 : f + 1 - 1 = f := by omega
        go_enter Try.func15, Try.ntmps15
        go_wp2
        go_ret2
        exact ⟨rfl, rfl⟩
    · rw [show ofF M i = 0 from if_neg (by omega), show ofE M i = 1 from if_neg (by omega)]
      clear h hF
      go_enter Try.func15, Try.ntmps15
      go_wp2
      go_ret2
      exact ⟨rfl, rfl⟩
  · rw [show ofF M i = 0 from if_neg (by omega), show ofE M i = 1 from if_neg (by omega)]
    clear h hF
    go_enter Try.func15, Try.ntmps15
    go_wp2
    go_ret2
    exact ⟨rfl, rfl⟩

theorem rdetach_c (w : World) (tb sb cap : Nat) (M : Nat → Option Int) (i : Int) (h : RL w tb sb cap M) (hF : Fr M) :
    Calls Try.prog 13 #[.pointer (some ⟨tb, 0, none⟩), .int .i64 i] w fun e w' => e = .returned (.tuple #[.int .i64 (ofF M i), .int .i64 (ofE M i)]) ∧ RL w' tb sb cap (deM M i) ∧ w.grownBy w' (some sb) := by
  have H := Lib.hid h
  have HF := Lib.hid hF
  have hd := h.hd
  by_cases hr : 0 ≤ i ∧ i < 8
  · obtain ⟨k, rfl⟩ : ∃ k : Nat, i = k := ⟨i.toNat, by omega⟩
    have eM : deM M k = updM M k none := by unfold deM; rw [if_pos hr]; rfl
    have hc := h.c k (by omega)
    have fz := h.fz k
    rw [eM]
    clear h hF
    cases hM : M k with
    | none =>
      have e0 : ofF M k = 0 := by unfold ofF; rw [if_pos hr]; simp [hM]
      have e1 : ofE M k = 3 := by unfold ofE; rw [if_pos hr]; simp [hM]
      have E := Lib.hid (And.intro e0 e1)
      rw [updM_none M k hM, e0, e1]
      clear e0 e1 hM eM hc fz
      go_enter Try.func13, Try.ntmps13
      go_wp2_with (go_at_call 15; refine (rof_c _ tb sb cap M _ H.out HF.out).mono ?_; rw [E.out.1, E.out.2]; rintro e w' ⟨rfl, rfl⟩)
      go_ret2
      exact ⟨rfl, H.out, grownBy_kept (Kept.refl _) _⟩
    | some f =>
      have e0 : ofF M k = f := by unfold ofF; rw [if_pos hr]; simp [hM]
      have e1 : ofE M k = 0 := by unfold ofE; rw [if_pos hr]; simp [hM]
      have E := Lib.hid (And.intro e0 e1)
      rw [e0, e1]
      obtain ⟨hr0, hr1⟩ := hr
      clear e0 e1 hM eM
      go_enter Try.func13, Try.ntmps13
      go_wp2_with (go_at_call 15; refine (rof_c _ tb sb cap M _ H.out HF.out).mono ?_; rw [E.out.1, E.out.2]; rintro e w' ⟨rfl, rfl⟩)
      go_ret2
      exact ⟨rfl, H.out.set k (by omega) none, grownBy_setCell w ⟨sb, k, none⟩ _⟩
  · have e0 : ofF M i = 0 := if_neg hr
    have e1 : ofE M i = 1 := if_neg hr
    have e2 : deM M i = M := if_neg hr
    have E := Lib.hid (And.intro e0 e1)
    rw [e0, e1, e2]
    clear e0 e1 e2 h hF hr
    go_enter Try.func13, Try.ntmps13
    go_wp2_with (go_at_call 15; refine (rof_c _ tb sb cap M _ H.out HF.out).mono ?_; rw [E.out.1, E.out.2]; rintro e w' ⟨rfl, rfl⟩)
    go_ret2
    exact ⟨rfl, H.out, grownBy_kept (Kept.refl _) _⟩

theorem rattach_c (w : World) (tb sb cap : Nat) (M : Nat → Option Int) (i f : Int) (h : RL w tb sb cap M) (hF : Fr M) :
    Calls Try.prog 14 #[.pointer (some ⟨tb, 0, none⟩), .int .i64 i, .int .i64 f] w fun e w' => e = .returned (.int .i64 (atE M i f)) ∧ RL w' tb sb cap (atM M i f) ∧ w.grownBy w' (some sb) := by
  have H := Lib.hid h
  have hd := h.hd
  by_cases hr : atOk i f
  · obtain ⟨r0, r1, f0, f1⟩ := hr
    obtain ⟨k, rfl⟩ : ∃ k : Nat, i = k := ⟨i.toNat, by omega⟩
    have hc := h.c k (by omega)
    have fz := h.fz k
    clear h
    cases hM : M k with
    | none =>
      have e0 : atE M k f = 0 := by unfold atE; rw [if_pos ⟨r0, r1, f0, f1⟩]; simp [hM]
      have e1 : atM M k f = updM M k (some f) := by unfold atM; rw [if_pos ⟨⟨r0, r1, f0, f1⟩, by simp [hM]⟩]; rfl
      rw [hM] at hc
      have hc' : w.cell? ⟨sb, k, none⟩ = some (.int .i64 0) := hc
      rw [e0, e1]
      clear hc hM hF e0 e1
      go_enter Try.func14, Try.ntmps14
      go_wp2
      go_ret
      exact ⟨rfl, H.out.set k (by omega) (some f), grownBy_setCell w ⟨sb, k, none⟩ _⟩
    | some g =>
      have e0 : atE M k f = 10 := by unfold atE; rw [if_pos ⟨r0, r1, f0, f1⟩]; simp [hM]
      have e1 : atM M k f = M := by unfold atM; rw [if_neg (by simp [hM])]
      rw [hM] at hc
      have hc' : w.cell? ⟨sb, k, none⟩ = some (.int .i64 (g + 1)) := hc
      obtain ⟨g0, g1⟩ := hF k g hM
      have b1 : (g + 1 != 0) = true := by simp; omega
      rw [e0, e1]
      clear hc hM hF e0 e1
      go_enter Try.func14, Try.ntmps14
      go_wp2
      go_ret
      exact ⟨rfl, H.out, grownBy_kept (Kept.refl _) _⟩
  · have e0 : atE M i f = 1 := if_neg hr
    have e1 : atM M i f = M := if_neg (fun h => hr h.1)
    rw [e0, e1]
    clear e0 e1 h hF
    unfold atOk at hr
    by_cases h1 : 0 ≤ i <;> by_cases h2 : i < 8 <;> by_cases h3 : 0 ≤ f <;> by_cases h4 : f < 64
    all_goals
      first
      | (exfalso; omega)
      | (clear hr
         go_enter Try.func14, Try.ntmps14
         go_wp2
         go_ret
         exact ⟨rfl, H.out, grownBy_kept (Kept.refl _) _⟩)

theorem rhas_c (w : World) (tb sb cap : Nat) (M : Nat → Option Int) (f : Int) (h : RL w tb sb cap M) (hF : Fr M) :
    Calls Try.prog 16 #[.pointer (some ⟨tb, 0, none⟩), .int .i64 f] w fun e w' => e = .returned (.int .i64 (hasF M f 8)) ∧ w = w' := by
  have H := Lib.hid h
  have HF := Lib.hid hF
  have hd := h.hd
  clear h hF
  go_enter Try.func16, Try.ntmps16
  go_wp2
  go_loop [5, 6] (fun c i => ∃ m : Nat, m ≤ 8 ∧ i = .int .i64 m ∧ c = .int .i64 (hasF M f m)) (fun _ i => 8 - (intOf i).toNat)
  case atStart => exact ⟨0, by omega, rfl, rfl⟩
  case round =>
    obtain ⟨m, hm, rfl, rfl⟩ := hrel
    have hc := hasF_le M f m
    by_cases hlt : m < 8
    · have g0 := H.out.c m hlt
      have HX : Hid (hasF M f (m + 1) = hasF M f m + if M m = some f then 1 else 0) := rfl
      by_cases f0 : 0 ≤ f
      · by_cases f1 : f < 64
        · by_cases hg : M m = some f
          · have e : hasF M f (m + 1) = hasF M f m + 1 := by rw [HX.out]; simp [hg]
            have HE := Lib.hid e
            rw [hg] at g0
            have g1 : w.cell? ⟨sb, m, none⟩ = some (.int .i64 (f + 1)) := g0
            clear e HX hg g0
            go_wp2
            go_round
            case rel => exact ⟨m + 1, by omega, by go_num, by rw [HE.out]; go_num⟩
            case measure => simp [intOf]; omega
          · have e : hasF M f (m + 1) = hasF M f m := by rw [HX.out]; simp [hg]
            have HE := Lib.hid e
            have b1 : (encO (M m) == f + 1) = false := by
              cases hM : M m with
              | none => simp [encO]; omega
              | some g => simp [encO]; intro e2; exact hg (by rw [hM, e2])
            clear e HX hg
            generalize encO (M m) = x at g0 b1
            go_wp2
            go_round
            case rel => exact ⟨m + 1, by omega, by go_num, by rw [HE.out]⟩
            case measure => simp [intOf]; omega
        · have e : hasF M f (m + 1) = hasF M f m := by
            rw [HX.out]; rw [if_neg (fun hg => f1 (HF.out m f hg).2)]; rfl
          have HE := Lib.hid e
          clear e HX g0
          go_wp2
          go_round
          case rel => exact ⟨m + 1, by omega, by go_num, by rw [HE.out]⟩
          case measure => simp [intOf]; omega
      · have e : hasF M f (m + 1) = hasF M f m := by
          rw [HX.out]; rw [if_neg (fun hg => f0 (HF.out m f hg).1)]; rfl
        have HE := Lib.hid e
        clear e HX g0
        go_wp2
        go_round
        case rel => exact ⟨m + 1, by omega, by go_num, by rw [HE.out]⟩
        case measure => simp [intOf]; omega
    · have hk8 : m = 8 := by omega
      go_wp2
      go_ret
      exact ⟨by first | rfl | (rw [hk8]; rfl), rfl⟩
end Go.Proofs.Ythoklnnnnkfhcaa.C

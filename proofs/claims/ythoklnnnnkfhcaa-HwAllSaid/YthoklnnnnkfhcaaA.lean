/- The walk of HwAll: all lines may lead to one frame. -/
import Derived.Test.YthoklnnnnkfhcaaF
namespace Go.Proofs.Ythoklnnnnkfhcaa.C
open Go.RowKit Go.Maps

def onTo (f : Int) (j : Nat) : Nat → Option Int := fun i => if i < j then some f else none
theorem onTo_at (f : Int) (j : Nat) (hj : j < 8) (h0 : 0 ≤ f) (h1 : f < 64) : atE (onTo f j) j f = 0 ∧ atM (onTo f j) j f = onTo f (j + 1) := by
  have hok : atOk (j : Int) f := ⟨by omega, by omega, h0, h1⟩
  have hn : onTo f j j = none := by simp [onTo]
  constructor
  · unfold atE; rw [if_pos hok]; simp [hn]
  · unfold atM; rw [if_pos ⟨hok, by simp [hn]⟩]
    funext i
    by_cases e : i = j
    · subst e; simp [updM, onTo]
    · have : i < j + 1 ↔ i < j := by omega
      simp [updM, onTo, e, this]
theorem onTo_again (f : Int) (j : Nat) (hj : j < 8) (h0 : 0 ≤ f) (h1 : f < 64) : atE (onTo f (j + 1)) j f = 10 ∧ atM (onTo f (j + 1)) j f = onTo f (j + 1) := by
  have hok : atOk (j : Int) f := ⟨by omega, by omega, h0, h1⟩
  have hn : onTo f (j + 1) j = some f := by simp [onTo]
  constructor
  · unfold atE; rw [if_pos hok]; simp [hn]
  · unfold atM; rw [if_neg (by simp [hn])]
def mOf (f : Int) (B : Nat → Bool) : Nat → Option Int := fun i => if i < 8 ∧ B i = false then some f else none
theorem mOf_start (f : Int) : onTo f 8 = mOf f (fun _ => false) := by funext i; simp [onTo, mOf]
def setB (B : Nat → Bool) (k : Nat) : Nat → Bool := fun i => if i = k then true else B i
theorem mOf_de (f : Int) (B : Nat → Bool) (k : Nat) (hk : k < 8) : deM (mOf f B) k = mOf f (setB B k) ∧ ofE (mOf f B) k = (if B k then 3 else 0) ∧ ofF (mOf f B) k = (if B k then 0 else f) := by
  have hr : 0 ≤ (k : Int) ∧ (k : Int) < 8 := by omega
  refine ⟨?_, ?_, ?_⟩
  · unfold deM; rw [if_pos hr]
    funext i
    by_cases e : i = k
    · subst e; simp [updM, mOf, setB]
    · simp [updM, mOf, setB, e]
  · unfold ofE; rw [if_pos hr]
    cases hb : B k <;> simp [mOf, hk, hb]
  · unfold ofF; rw [if_pos hr]
    cases hb : B k <;> simp [mOf, hk, hb]
theorem has_out (f : Int) (B : Nat → Bool) (k : Nat) : ∀ m, m ≤ k → hasF (mOf f (setB B k)) f m = hasF (mOf f B) f m := by
  intro m
  induction m with
  | zero => intro _; rfl
  | succ m ih =>
    intro h
    have e : ¬ m = k := by omega
    simp only [hasF]; rw [ih (by omega)]; simp [mOf, setB, e]
theorem has_in (f : Int) (B : Nat → Bool) (k : Nat) (hb : B k = false) : ∀ m, k < m → m ≤ 8 → hasF (mOf f (setB B k)) f m + 1 = hasF (mOf f B) f m := by
  intro m
  induction m with
  | zero => intro h; omega
  | succ m ih =>
    intro h h8
    simp only [hasF]
    by_cases e : m = k
    · subst e
      have hm : m < 8 := by omega
      rw [has_out f B m m (Nat.le_refl _)]
      simp [mOf, setB, hb, hm]
    · have := ih (by omega) (by omega)
      have e2 : mOf f (setB B k) m = mOf f B m := by simp [mOf, setB, e]
      rw [e2]; omega
theorem setB_same (B : Nat → Bool) (k : Nat) (h : B k = true) : setB B k = B := by
  funext i
  by_cases e : i = k
  · subst e; simp [setB, h]
  · simp [setB, e]
theorem has_full (f : Int) : hasF (mOf f (fun _ => false)) f 8 = 8 := by simp [hasF, mOf]

structure Off (w : World) (ob : Nat) (B : Nat → Bool) : Prop where
  c : ∀ i : Nat, i < 8 → w.cell? ⟨ob, i, none⟩ = some (.bool (B i))
  fz : ∀ o, w.frozen? ⟨ob, o, none⟩ = false
theorem Off.lt {w : World} {ob : Nat} {B : Nat → Bool} (h : Off w ob B) : ob < w.heap.size := World.block_lt_of_cell? w _ (h.c 0 (by omega))
theorem Off.grown {w w' : World} {ob : Nat} {B : Nat → Bool} (h : Off w ob B) {row : Option Nat} (g : w.grownBy w' row) (h1 : row ≠ some ob) : Off w' ob B :=
  ⟨fun i hi => g.cell (h.c i hi) (fun e => h1 e.symm), fun o => (World.frozen?_of_block (a := ⟨ob, o, none⟩) (g.block ob h.lt (fun e => h1 e.symm))).trans (h.fz o)⟩
theorem Off.set {w : World} {ob : Nat} {B : Nat → Bool} (h : Off w ob B) (k : Nat) (hk : k < 8) : Off (w.setCell ⟨ob, k, none⟩ (.bool true)) ob (setB B k) := by
  refine ⟨fun i hi => ?_, fun o => by rw [World.frozen?_setCell]; exact h.fz o⟩
  by_cases e : i = k
  · subst e
    rw [World.cell?_setCell_same _ _ _ (h.c i hi)]; simp [setB]
  · rw [World.cell?_setCell_other _ _ _ _ (addr_ne (.inr (by omega)))]; simp [setB, e, h.c i hi]

theorem all_step {w a : World} {n ob k : Nat} {M : Nat → Option Int} {B : Nat → Bool} (h : St w n M a) (o : Off a ob B) (hob : w.heap.size + 2 ≤ ob) (hk : k < 8) :
    St w n M (a.setCell ⟨ob, k, none⟩ (.bool true)) ∧ Off (a.setCell ⟨ob, k, none⟩ (.bool true)) ob (setB B k) := by
  have g : a.grownBy (a.setCell ⟨ob, k, none⟩ (.bool true)) (some ob) := grownBy_setCell a ⟨ob, k, none⟩ _
  exact ⟨⟨h.t.grown g (fun e => by injection e; omega) (fun e => by injection e; omega), h.bel.grown g h.bel.size (fun j hj => by cases hj; omega)⟩, o.set k hk⟩

set_option maxRecDepth 100000 in
set_option maxHeartbeats 4000000 in
theorem All_w (f : Int) (a0 : Option Addr) (l0 c0 : Nat) (z0 : Nat → Int) (w : World) (_ : (Lit.int .i64 f).wf = true) (s0 : RowI .u8 w a0 l0 z0) :
    Calls Try.prog 6 #[.int .i64 f, .slice a0 l0 c0] w fun e w' => e = .returned (.bool true) ∧ Kept w w' := by
  obtain ⟨m0, r0⟩ := s0
  unfold maxLen at m0
  have R0 := Lib.hid r0
  clear r0
  by_cases hf0 : 0 ≤ f
  · by_cases hf1 : f < 64
    · go_enter Try.func6, Try.ntmps6
      go_wp2_with fail
      refine (new_c _).mono ?_
      rintro e w1 ⟨rfl, hT, hk⟩
      have HS : Hid (St w 0 (onTo f 0) w1) := ⟨by rw [show onTo f 0 = fun _ => none from by funext i; simp [onTo]]; exact hT, hk⟩
      clear hT hk
      go_wp2_with fail
      go_loopw [6] (fun i wr => ∃ (j n : Nat), j ≤ 8 ∧ n ≤ 2 * j ∧ i = .int .i64 j ∧ Hid (St w n (onTo f j) wr)) (fun i _ => 8 - (intOf i).toNat)
      case atStart => exact ⟨0, 0, by omega, by omega, rfl, HS⟩
      case round =>
        obtain ⟨j, n, hj, hn, rfl, hs⟩ := hrel
        clear HS
        by_cases hlt : j < 8
        · obtain ⟨e0, e1⟩ := onTo_at f j hlt hf0 hf1
          obtain ⟨e2, e3⟩ := onTo_again f j hlt hf0 hf1
          have E := Lib.hid (And.intro e0 (And.intro e1 (And.intro e2 e3)))
          clear e0 e1 e2 e3
          go_wp2_with fail
          refine (attach_c _ _ _ _ _ _ _ (by omega) hs.out.t).mono ?_
          rw [E.out.1, E.out.2.1]
          rintro e w2 ⟨rfl, hT2, hg2⟩
          have H2 := Lib.hid (hs.out.step hT2 hg2)
          clear hT2 hg2
          go_wp2_with fail
          refine (attach_c _ _ _ _ _ _ _ (by omega) H2.out.t).mono ?_
          rw [E.out.2.2.1, E.out.2.2.2]
          rintro e w3 ⟨rfl, hT3, hg3⟩
          have H3 := Lib.hid (H2.out.step hT3 hg3)
          clear hT3 hg3
          go_wp2_with fail
          go_roundw
          case rel => exact ⟨j + 1, _, by omega, by omega, by go_num, H3⟩
          case measure => simp [intOf]; omega
        · obtain rfl : j = 8 := by omega
          clear hlt hj
          go_wp2_with fail
          obtain ⟨W, hW⟩ : ∃ W, W = wr.alloc (.cells #[.bool false, .bool false, .bool false, .bool false, .bool false, .bool false, .bool false, .bool false] 43) := ⟨_, rfl⟩
          rw [← hW]
          have hoff : Off W wr.heap.size (fun _ => false) := by
            rw [hW]
            refine ⟨fun i hi => ?_, fun o => by rw [frozen?_alloc_cells]; simp [World.frozen?]⟩
            rw [World.cell?_alloc_new]
            match i, hi with
            | 0, _ => rfl
            | 1, _ => rfl
            | 2, _ => rfl
            | 3, _ => rfl
            | 4, _ => rfl
            | 5, _ => rfl
            | 6, _ => rfl
            | 7, _ => rfl
          have hSW : St w n (mOf f (fun _ => false)) W := by
            rw [← mOf_start, hW]; exact hs.out.kept ((Kept.refl _).alloc _)
          have hob : w.heap.size + 2 ≤ wr.heap.size := by have := hs.out.t.lt; omega
          generalize wr.heap.size = ob at hoff hob ⊢
          have HS : Hid (St w n (mOf f (fun _ => false)) W ∧ Off W ob (fun _ => false)) := ⟨hSW, hoff⟩
          clear hs hW hoff hSW
          go_loopw [8, 9, 10, 11, 12] (fun c i _ _ _ wr => ∃ (j : Nat) (B : Nat → Bool), j ≤ 20 ∧ i = .int .i64 j ∧ c = .int .i64 (hasF (mOf f B) f 8) ∧ Hid (St w n (mOf f B) wr ∧ Off wr ob B)) (fun _ i _ _ _ _ => 20 - (intOf i).toNat)
          case atStart => exact ⟨0, _, by omega, rfl, by rw [has_full]; rfl, HS⟩
          case round =>
            obtain ⟨j, B, hj, rfl, rfl, hs⟩ := hrel
            clear HS
            have hle := hasF_le (mOf f B) f 8
            by_cases hlt : j < l0 ∧ j < 20
            · obtain ⟨q0, q4⟩ := hlt
              obtain ⟨b0, o0, rfl, hc0⟩ := R0.out (by omega)
              have g0 := Below.old hs.out.1.bel (hc0 j q0).1
              obtain ⟨bd1, bd2⟩ := bd_u8 (hc0 j q0).2
              obtain ⟨kk, hkk, hk8⟩ : ∃ kk : Nat, z0 j % 8 = kk ∧ kk < 8 := ⟨(z0 j % 8).toNat, by omega, by omega⟩
              clear hc0 R0
              obtain ⟨e1, e2, e3⟩ := mOf_de f B kk hk8
              have E := Lib.hid (And.intro e1 (And.intro e2 e3))
              clear e1 e2 e3
              have k0 : (0 : Int) ≤ kk := by omega
              have k1 : (kk : Int) < 8 := by omega
              go_wp2_with fail
              refine (detach_c _ _ _ _ _ _ hs.out.1.t).mono ?_
              rw [E.out.1, E.out.2.1, E.out.2.2]
              rintro e w3 ⟨rfl, hT3, hg3⟩
              have H3 := Lib.hid (hs.out.1.step hT3 hg3)
              have hO := hs.out.2.grown hg3 (fun e => by injection e; omega)
              have HO := Lib.hid hO
              have c0 := hO.c kk hk8
              have f0 := hO.fz kk
              have hne : ¬ ob = w.heap.size + 1 ∧ ¬ ob = w.heap.size := by omega
              clear hT3 hg3 hO
              cases hb : B kk
              · have HC := Lib.hid (has_in f B kk hb 8 hk8 (Nat.le_refl _))
                have hpos : 1 ≤ hasF (mOf f B) f 8 := by have := HC.out; omega
                rw [hb] at c0
                clear hb
                go_wp2_with fail
                go_roundw
                case rel =>
                  first
                  | exact ⟨j + 1, setB B kk, by omega, by go_num, by rw [← HC.out]; go_num, all_step H3.out HO.out hob hk8⟩
                  | ((repeat apply Exists.intro); exact ⟨⟨j + 1, setB B kk, by omega, by go_num, by rw [← HC.out]; go_num, all_step H3.out HO.out hob hk8⟩, rfl⟩)
                case measure => simp [intOf]; omega
              · have HB := Lib.hid (setB_same B kk hb)
                rw [hb] at c0
                clear hb
                go_wp2_with fail
                go_roundw
                case rel =>
                  first
                  | exact ⟨j + 1, setB B kk, by omega, by go_num, by rw [HB.out], all_step H3.out HO.out hob hk8⟩
                  | ((repeat apply Exists.intro); exact ⟨⟨j + 1, setB B kk, by omega, by go_num, by rw [HB.out], all_step H3.out HO.out hob hk8⟩, rfl⟩)
                case measure => simp [intOf]; omega
            · clear R0
              by_cases q0 : j < l0 <;> by_cases q4 : j < 20
              all_goals
                first
                | (exfalso; omega)
                | (clear hlt
                   go_wp2_with fail
                   refine (has_c _ _ _ _ _ _ hs.out.1.t).mono ?_
                   rintro e w5 ⟨rfl, rfl⟩
                   go_wp2_with fail
                   refine (awake_c _).mono ?_
                   rintro e w7 ⟨rfl, hk7⟩
                   have hb7 := Lib.hid (hs.out.1.kept hk7).bel
                   clear hk7
                   go_wp2_with fail
                   go_ret
                   exact ⟨rfl, hb7.out⟩)
    · have hf2 : 64 ≤ f := by omega
      go_enter Try.func6, Try.ntmps6
      go_wp2_with fail
      refine (new_c _).mono ?_
      rintro e w1 ⟨rfl, hT, hk⟩
      have HK := Lib.hid hk
      clear hT hk
      go_wp2_with fail
      refine (awake_c _).mono ?_
      rintro e w2 ⟨rfl, hk2⟩
      have H2 := Lib.hid (HK.out.trans hk2)
      clear hk2
      go_wp2_with fail
      go_ret
      exact ⟨rfl, H2.out⟩
  · go_enter Try.func6, Try.ntmps6
    go_wp2_with fail
    refine (new_c _).mono ?_
    rintro e w1 ⟨rfl, hT, hk⟩
    have HK := Lib.hid hk
    clear hT hk
    go_wp2_with fail
    refine (awake_c _).mono ?_
    rintro e w2 ⟨rfl, hk2⟩
    have H2 := Lib.hid (HK.out.trans hk2)
    clear hk2
    go_wp2_with fail
    go_ret
    exact ⟨rfl, H2.out⟩

theorem All_wf (a0 : Int) (a1 : Option Addr) (len1 cap1 : Nat) (z1 : Nat → Int) (w : World) (w0 : (Lit.int .i64 a0).wf = true) (s1 : RowI .u8 w a1 len1 z1) :
    Calls Try.prog 6 #[.int .i64 a0, .slice a1 len1 cap1] w fun e w' => e = .returned (.bool true) ∧ Kept w w' :=
  All_w a0 a1 len1 cap1 z1 w w0 s1
end Go.Proofs.Ythoklnnnnkfhcaa.C

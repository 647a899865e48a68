/- The law's two machines side by side; what is taken of them. -/
import Derived.Test.YtcjadneamacilaaAP
import Derived.Test.YtcjadneamacilaaAI
namespace Go.Proofs.Ytcjadneamacilaa.C
open Go.RowKit

theorem Kept.on {a w w' : World} (h : Kept a w) {row : Option Nat} (hr : ∀ k, row = some k → a.heap.size ≤ k) (g : w.grownBy w' row) : Kept a w' :=
  Below.grown h g h.size hr
theorem Mc.out {w w' : World} {lo mb mm ms tb sb n cap : Nat} {Z : Nat → Nat → Int} {L : Nat → Fm} (h : Mc w mb mm ms tb sb n cap Z L) {row : Option Nat} (g : w.grownBy w' row) (hr : ∀ k, row = some k → lo ≤ k) (hb : mb < lo ∧ mm < lo ∧ ms < lo ∧ tb < lo ∧ sb < lo) : Mc w' mb mm ms tb sb n cap Z L := by
  obtain ⟨b1, b2, b3, b4, b5⟩ := hb
  have ne : ∀ x, x < lo → some x ≠ row := fun x hx e => by have := hr x e.symm; omega
  exact ⟨g.cell h.m0 (ne _ b1), g.cell h.m2 (ne _ b1), by obtain ⟨a, c, e⟩ := h.m5; exact ⟨a, c, g.cell e (ne _ b1)⟩, h.M.grown g (ne _ b2).symm (ne _ b3).symm, h.T.grown g (ne _ b4).symm (ne _ b5).symm, h.d1, h.d2, h.d3, h.d4, h.d5⟩
theorem Mc.setM {w w' : World} {mb mm ms tb sb n cap : Nat} {Z Z' : Nat → Nat → Int} {L : Nat → Fm} (h : Mc w mb mm ms tb sb n cap Z L) (hM : Mm w' mm ms n Z') (g : w.grownBy w' (some ms)) : Mc w' mb mm ms tb sb n cap Z' L := by
  have ne : ∀ x, x ≠ ms → some x ≠ some ms := fun x hx e => by injection e with e; exact hx e
  exact ⟨g.cell h.m0 (ne _ h.d1), g.cell h.m2 (ne _ h.d1), by obtain ⟨a, c, e⟩ := h.m5; exact ⟨a, c, g.cell e (ne _ h.d1)⟩, hM, h.T.grown g (ne _ h.d4.symm).symm (ne _ h.d3.symm).symm, h.d1, h.d2, h.d3, h.d4, h.d5⟩
theorem Mc.setT {w w' : World} {mb mm ms tb sb n cap : Nat} {Z : Nat → Nat → Int} {L L' : Nat → Fm} (h : Mc w mb mm ms tb sb n cap Z L) (hT : Tb w' tb sb n cap L') (g : w.grownBy w' (some sb)) : Mc w' mb mm ms tb sb n cap Z L' := by
  have ne : ∀ x, x ≠ sb → some x ≠ some sb := fun x hx e => by injection e with e; exact hx e
  exact ⟨g.cell h.m0 (ne _ h.d2), g.cell h.m2 (ne _ h.d2), by obtain ⟨a, c, e⟩ := h.m5; exact ⟨a, c, g.cell e (ne _ h.d2)⟩, h.M.grown g (ne _ h.d5).symm (ne _ h.d3).symm, hT, h.d1, h.d2, h.d3, h.d4, h.d5⟩

/-- The law's two machines. -/
structure LS (w W : World) (lo mb mm ms tb sb cap vb rm rf rt rs capf capt : Nat) (G Q : Nat → Nat) (Z Z2 : Nat → Nat → Int) (L L2 : Nat → Fm) : Prop where
  k : Kept w W
  M : Mc W mb mm ms tb sb 8 cap Z L
  V : Vc W lo vb rm rf rt rs 8 capf capt G Q Z2 L2
  b : (mb < lo ∧ mm < lo ∧ ms < lo ∧ tb < lo ∧ sb < lo) ∧ w.heap.size ≤ ms ∧ w.heap.size ≤ sb ∧ w.heap.size ≤ lo
section
variable {w W W' : World} {lo mb mm ms tb sb cap vb rm rf rt rs capf capt : Nat} {G Q : Nat → Nat} {Z Z2 Z' : Nat → Nat → Int} {L L2 L' : Nat → Fm}
theorem LS.kept (h : LS w W lo mb mm ms tb sb cap vb rm rf rt rs capf capt G Q Z Z2 L L2) (k : Kept W W') : LS w W' lo mb mm ms tb sb cap vb rm rf rt rs capf capt G Q Z Z2 L L2 :=
  ⟨h.k.trans k, h.M.kept k, h.V.kept k, h.b⟩
theorem LS.setM (h : LS w W lo mb mm ms tb sb cap vb rm rf rt rs capf capt G Q Z Z2 L L2) (hM : Mm W' mm ms 8 Z') (g : W.grownBy W' (some ms)) : LS w W' lo mb mm ms tb sb cap vb rm rf rt rs capf capt G Q Z' Z2 L L2 := by
  obtain ⟨hb, b1, b2, b3⟩ := h.b
  exact ⟨h.k.on (fun k e => by injection e with e; omega) g, h.M.setM hM g, h.V.grown g (fun k e => by injection e with e; omega), h.b⟩
theorem LS.setT (h : LS w W lo mb mm ms tb sb cap vb rm rf rt rs capf capt G Q Z Z2 L L2) (hT : Tb W' tb sb 8 cap L') (g : W.grownBy W' (some sb)) : LS w W' lo mb mm ms tb sb cap vb rm rf rt rs capf capt G Q Z Z2 L' L2 := by
  obtain ⟨hb, b1, b2, b3⟩ := h.b
  exact ⟨h.k.on (fun k e => by injection e with e; omega) g, h.M.setT hT g, h.V.grown g (fun k e => by injection e with e; omega), h.b⟩
theorem LS.setM2 (h : LS w W lo mb mm ms tb sb cap vb rm rf rt rs capf capt G Q Z Z2 L L2) (hM : Rm W' rm rf 8 capf G Q Z') {row : Option Nat} (g : W.grownBy W' row) (hr : row = none ∨ ∃ i, i < 8 ∧ row = some (G i)) : LS w W' lo mb mm ms tb sb cap vb rm rf rt rs capf capt G Q Z Z' L L2 := by
  obtain ⟨hb, b1, b2, b3⟩ := h.b
  have hlo : ∀ k, row = some k → lo ≤ k := by
    intro k e
    rcases hr with hr | ⟨i, hi, hr⟩
    · rw [hr] at e; cases e
    · rw [hr] at e; injection e with e; have := h.V.o.2.2.2.2.2 i hi; omega
  exact ⟨h.k.on (fun k e => by have := hlo k e; omega) g, h.M.out g hlo hb, h.V.setM hM g hr, h.b⟩
theorem LS.setT2 (h : LS w W lo mb mm ms tb sb cap vb rm rf rt rs capf capt G Q Z Z2 L L2) (hT : Tb W' rt rs 8 capt L') (g : W.grownBy W' (some rs)) : LS w W' lo mb mm ms tb sb cap vb rm rf rt rs capf capt G Q Z Z2 L L' := by
  obtain ⟨hb, b1, b2, b3⟩ := h.b
  have hlo : ∀ k, some rs = some k → lo ≤ k := fun k e => by injection e with e; have := h.V.o.2.2.2.2.1; omega
  exact ⟨h.k.on (fun k e => by have := hlo k e; omega) g, h.M.out g hlo hb, h.V.setT hT g, h.b⟩
end

def tyOk (L : Nat → Fm) : Prop := ∀ i, i < 8 → 0 ≤ (L i).ty ∧ (L i).ty ≤ 2
theorem tyOk_rt {L : Nat → Fm} (h : tyOk L) (n : Nat) (f tt : Int) (q : Bool) : tyOk (rtL n L f tt q) := by
  unfold rtL
  split
  · rename_i he
    intro i hi
    unfold upd
    split
    · have hto : tt = 1 ∨ tt = 2 := by
        unfold rtE at he
        split at he
        · unfold rtOk at he
          split at he
          · omega
          · omega
        · omega
      rcases hto with rfl | rfl <;> simp
    · exact h i hi
  · exact h
theorem tyOk_rf {L : Nat → Fm} (h : tyOk L) (n : Nat) (f : Int) : tyOk (rfL n L f) := by
  unfold rfL
  split
  · intro i hi
    unfold upd
    split
    · rename_i e
      by_cases h8 : f.toNat < 8
      · exact h _ h8
      · omega
    · exact h i hi
  · exact h

/-- What is taken. -/
def tkC (a b : Int) : Prop := 0 ≤ a ∧ b ≤ 8 ∧ a ≤ b
instance (a b : Int) : Decidable (tkC a b) := by unfold tkC; infer_instance
def tkS (Z : Nat → Nat → Int) (L : Nat → Fm) (a b : Int) : Sn := if tkC a b then snapOf Z L a.toNat (b - a).toNat else Sn.nil
def tkE (a b : Int) : Int := if tkC a b then 0 else 1
theorem tk_100 (Z : Nat → Nat → Int) (L : Nat → Fm) (a b : Int) (i : Nat) (_h : i < (tkS Z L a b).nw) : (tkS Z L a b).L i ≤ 100 := by
  unfold tkS
  split
  · simp [snapOf]
  · simp [Sn.nil]
theorem take_all (w : World) (mb mm ms tb sb cap : Nat) (Z : Nat → Nat → Int) (L : Nat → Fm) (a b : Int) (hM : Mc w mb mm ms tb sb 8 cap Z L) (hT : tyOk L) :
    Calls Try.prog 17 #[.pointer (some ⟨mb, 0, none⟩), .int .i64 a, .int .i64 b] w fun e w' => ∃ p, e = .returned (.tuple #[.agg #[.int .i64 (tkS Z L a b).fr, .int .i64 (tkS Z L a b).up, .slice p.aw (tkS Z L a b).nw p.cw, .slice p.at' (tkS Z L a b).nt p.ct, .slice p.ac (tkS Z L a b).nc p.cc], .int .i64 (tkE a b)]) ∧ Snp w' p (tkS Z L a b) ∧ Kept w w' := by
  by_cases h : tkC a b
  · have e1 : ((a.toNat : Nat) : Int) = a := by have := h.1; omega
    have e2 : a + ((b - a).toNat : Int) = b := by have := h.2.2; omega
    have hN : a.toNat + (b - a).toNat ≤ 8 := by obtain ⟨h1, h2, h3⟩ := h; omega
    have hc := take_c w mb mm ms tb sb 8 cap a.toNat (b - a).toNat Z L hM hT hN
    rw [e1, e2] at hc
    refine hc.mono ?_
    rintro e w' ⟨p, rfl, hs, hk⟩
    rw [show tkS Z L a b = snapOf Z L a.toNat (b - a).toNat from if_pos h, show tkE a b = 0 from if_pos h]
    exact ⟨p, by simp only [snapOf]; rw [e1, e2], hs, hk⟩
  · rw [show tkS Z L a b = Sn.nil from if_neg h, show tkE a b = 1 from if_neg h]
    refine (take_bad w mb mm ms tb sb 8 cap Z L a b hM (fun hh => h ⟨hh.1, by have := hh.2.1; omega, hh.2.2⟩)).mono ?_
    rintro e w' ⟨rfl, hk⟩
    exact ⟨_, rfl, Snp.nil w', hk⟩
theorem rtake_all (w : World) (lo vb rm rf tb sb cap capt : Nat) (G Q : Nat → Nat) (Z : Nat → Nat → Int) (L : Nat → Fm) (a b : Int) (hM : Vc w lo vb rm rf tb sb 8 cap capt G Q Z L) (hT : tyOk L) :
    Calls Try.prog 18 #[.pointer (some ⟨vb, 0, none⟩), .int .i64 a, .int .i64 b] w fun e w' => ∃ p, e = .returned (.tuple #[.agg #[.int .i64 (tkS Z L a b).fr, .int .i64 (tkS Z L a b).up, .slice p.aw (tkS Z L a b).nw p.cw, .slice p.at' (tkS Z L a b).nt p.ct, .slice p.ac (tkS Z L a b).nc p.cc], .int .i64 (tkE a b)]) ∧ Snp w' p (tkS Z L a b) ∧ Kept w w' := by
  by_cases h : tkC a b
  · have e1 : ((a.toNat : Nat) : Int) = a := by have := h.1; omega
    have e2 : a + ((b - a).toNat : Int) = b := by have := h.2.2; omega
    have hN : a.toNat + (b - a).toNat ≤ 8 := by obtain ⟨h1, h2, h3⟩ := h; omega
    have hc := rtake_ok w lo vb rm rf tb sb 8 cap capt a.toNat (b - a).toNat G Q Z L hM hT hN
    rw [e1, e2] at hc
    refine hc.mono ?_
    rintro e w' ⟨p, rfl, hs, hk⟩
    rw [show tkS Z L a b = snapOf Z L a.toNat (b - a).toNat from if_pos h, show tkE a b = 0 from if_pos h]
    exact ⟨p, by simp only [snapOf]; rw [e1, e2], hs, hk⟩
  · rw [show tkS Z L a b = Sn.nil from if_neg h, show tkE a b = 1 from if_neg h]
    refine (rtake_bad w lo vb rm rf tb sb 8 cap capt G Q Z L a b hM (fun hh => h ⟨hh.1, by have := hh.2.1; omega, hh.2.2⟩)).mono ?_
    rintro e w' ⟨rfl, hk⟩
    exact ⟨_, rfl, Snp.nil w', hk⟩
end Go.Proofs.Ytcjadneamacilaa.C

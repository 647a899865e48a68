/- snap.Text and snap.Cut of any snap. -/
import Derived.Test.YtcjadneamacilaaW0
namespace Go.Proofs.Ytcjadneamacilaa.C
open Go.RowKit

def textR (s : Sn) (f : Int) : ByteArray := if textE s f = 0 then textOf s (f - s.fr).toNat else ⟨#[]⟩
theorem text_c (w : World) (p : Pl) (s : Sn) (f : Int) (hp : Snp w p s) :
    Calls Try.prog 27 #[.agg #[.int .i64 s.fr, .int .i64 s.up, .slice p.aw s.nw p.cw, .slice p.at' s.nt p.ct, .slice p.ac s.nc p.cc], .int .i64 f] w fun e w' => e = .returned (.tuple #[.string (textR s f), .int .i64 (textE s f)]) ∧ Kept w w' := by
  by_cases h : Right s ∧ s.fr ≤ f ∧ f ≤ s.up - 1
  · obtain ⟨hR, h1, h2⟩ := h
    have h3 := hR.1.2.2.2.1
    have hE : textE s f = 0 := by unfold textE; rw [if_neg (fun x => x hR), if_pos ⟨h1, h2⟩]
    have hk : s.fr + ((f - s.fr).toNat : Int) = f := by omega
    have h := text_ok w p s (f - s.fr).toNat hp hR (by omega)
    rw [hk] at h
    refine h.mono ?_
    rintro e w' ⟨rfl, hk'⟩
    exact ⟨by rw [textR, if_pos hE, hE], hk'⟩
  · refine (text_bad w p s f hp h).mono ?_
    rintro e w' ⟨rfl, hne, hk⟩
    exact ⟨by rw [textR, if_neg hne], hk⟩

def Sn.nil : Sn := ⟨0, 0, 0, fun _ => 0, fun _ _ => 0, 0, fun _ => 0, 0, fun _ => 0⟩
def cutR (s : Sn) (a b : Int) : Sn := if cutE s a b = 0 then cutOf s (a - s.fr).toNat (b - a).toNat else Sn.nil
theorem Snp.nil (w : World) : Snp w ⟨none, 0, fun _ => none, fun _ => 0, none, 0, none, 0⟩ Sn.nil := by
  refine ⟨by decide, by decide, ⟨Nat.le_refl _, by simp [maxLen]⟩, fun h => absurd h (Nat.lt_irrefl _), fun i hi => absurd hi (Nat.not_lt_zero _), ⟨⟨?_, fun h => absurd h (Nat.lt_irrefl _)⟩, Nat.le_refl _, ?_⟩, ⟨⟨?_, fun h => absurd h (Nat.lt_irrefl _)⟩, Nat.le_refl _, ?_⟩⟩ <;> simp [Sn.nil, maxLen]
theorem cutE0 {s : Sn} {a b : Int} (h : cutE s a b = 0) : Right s ∧ s.fr ≤ a ∧ b ≤ s.up ∧ a ≤ b := by
  unfold cutE at h
  split at h
  · omega
  · rename_i hR
    split at h
    · rename_i hh; exact ⟨Decidable.not_not.1 hR, hh⟩
    · omega

theorem cut_c (w : World) (p : Pl) (s : Sn) (a b : Int) (hp : Snp w p s) :
    Calls Try.prog 26 #[.agg #[.int .i64 s.fr, .int .i64 s.up, .slice p.aw s.nw p.cw, .slice p.at' s.nt p.ct, .slice p.ac s.nc p.cc], .int .i64 a, .int .i64 b] w fun e w' =>
      ∃ q : Pl, e = .returned (.tuple #[.agg #[.int .i64 (cutR s a b).fr, .int .i64 (cutR s a b).up, .slice q.aw (cutR s a b).nw q.cw, .slice q.at' (cutR s a b).nt q.ct, .slice q.ac (cutR s a b).nc q.cc], .int .i64 (cutE s a b)]) ∧ Snp w' q (cutR s a b) ∧ Kept w w' := by
  by_cases h : cutE s a b = 0
  · obtain ⟨hR, h1, h2, h3⟩ := cutE0 h
    have h4 := hR.1.2.2.2.1
    have hr : cutR s a b = cutOf s (a - s.fr).toNat (b - a).toNat := by rw [cutR, if_pos h]
    have e1 : s.fr + ((a - s.fr).toNat : Int) = a := by omega
    have e2 : a + ((b - a).toNat : Int) = b := by omega
    rw [hr, h]
    rcases Nat.eq_zero_or_pos (b - a).toNat with hz | hz
    · have hab : a = b := by omega
      have hc := cut_none w p s (a - s.fr).toNat hp hR (by omega)
      rw [e1] at hc
      rw [hz]
      subst hab
      refine hc.mono ?_
      rintro e w' ⟨q, rfl, hq, hk⟩
      exact ⟨q, by simp only [cutOf]; rw [e1]; simp, hq, hk⟩
    · have hc := cut_some w p s (a - s.fr).toNat (b - a).toNat hp hR hz (by omega)
      rw [e1, e2] at hc
      refine hc.mono ?_
      rintro e w' ⟨q, rfl, hq, hk⟩
      exact ⟨q, by simp only [cutOf]; rw [e1, e2], hq, hk⟩
  · have hr : cutR s a b = Sn.nil := by rw [cutR, if_neg h]
    rw [hr]
    refine (cut_bad w p s a b hp h).mono ?_
    rintro e w' ⟨rfl, hk⟩
    exact ⟨_, rfl, Snp.nil w', hk⟩

/-- What is cut out is right. -/
theorem cut_right {s : Sn} (hR : Right s) {k0 m : Nat} (hkm : k0 + m ≤ s.nw) : Right (cutOf s k0 m) := by
  obtain ⟨⟨r0, r1, r2, r3, r4, r5⟩, hr⟩ := hR
  refine ⟨⟨?_, ?_, ?_, ?_, ?_, ?_⟩, fun i hi => ?_⟩
  all_goals simp only [cutOf] at *
  all_goals first | omega | skip
  exact ⟨rfl, (hr (k0 + i) (by omega)).2⟩
end Go.Proofs.Ytcjadneamacilaa.C

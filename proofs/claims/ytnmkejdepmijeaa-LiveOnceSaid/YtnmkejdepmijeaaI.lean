/- Contracts of package live's functions. -/
import Derived.Test.YtnmkejdepmijeaaB
namespace Go.Proofs.Ytnmkejdepmijeaa.C
open Go.RowKit

/-- The first of n places from i on at which p holds; -1: none. -/
def idxF (p : Nat → Bool) : Nat → Nat → Int
  | 0, _ => -1
  | n + 1, i => if p i then (i : Int) else idxF p n (i + 1)

theorem new_lt {w w' : World} (k : Kept w w') : w.heap.size ≤ w'.heap.size := k.size

set_option maxHeartbeats 400000 in
theorem index_c (w : World) (tb sb B : Nat) (L : Nat → Id) (fl : Int) (h : Tab w tb sb L) (hB : w.cell? ⟨B, 0, none⟩ = some (.int .i64 fl)) :
    Calls Try.prog 21 #[.slice (some ⟨sb, 0, none⟩) 64 64, .func (.func 20) #[] #[.pointer (some ⟨B, 0, none⟩)]] w fun e w' => e = .returned (.int .i64 (idxF (fun i => mayB (L i) fl) 64 0)) ∧ Kept w w' := by
  have H := Lib.hid h
  have HB := Lib.hid hB
  clear h hB
  go_enter Try.func21, Try.ntmps21
  go_wp2
  go_loopw [5, 8] (fun _ i wr => ∃ k : Nat, k ≤ 64 ∧ i = .int .i64 k ∧ Kept w wr ∧ idxF (fun i => mayB (L i) fl) (64 - k) k = idxF (fun i => mayB (L i) fl) 64 0) (fun _ i _ => 64 - (intOf i).toNat)
  case atStart => exact ⟨0, by omega, rfl, Kept.refl _, rfl⟩
  case round =>
    obtain ⟨k, hk, rfl, hkept, hidx⟩ := hrel
    have HI := Lib.hid hidx
    clear hidx
    by_cases hlt : k < 64
    · have hT := H.out.kept hkept
      have h0 := hT.c0 k hlt
      have h1 := hT.c1 k hlt
      have h2 := hT.c2 k hlt
      have h3 := hT.c3 k hlt
      have hb := hkept.cell HB.out
      have HH := Lib.hid hb
      clear hT hb
      go_wp2_with fail
      refine (may_c (L k) fl B wr HH.out).mono ?_
      rintro e w1 ⟨rfl, hk1⟩
      have hs : idxF (fun i => mayB (L i) fl) (64 - k) k = if mayB (L k) fl then (k : Int) else idxF (fun i => mayB (L i) fl) (64 - (k + 1)) (k + 1) := by
        rw [show 64 - k = (64 - (k + 1)) + 1 from by omega]; rfl
      have HS := Lib.hid hs
      clear hs
      cases hm : mayB (L k) fl
      · have HM := Lib.hid hm
        clear hm
        go_wp2_with fail
        go_roundw
        case rel => exact ⟨k + 1, by omega, by go_num, hkept.trans hk1, by rw [← HI.out, HS.out, HM.out]; rfl⟩
        case measure => simp [intOf]; omega
      · have HM := Lib.hid hm
        clear hm
        go_wp2_with fail
        go_ret
        exact ⟨by rw [← HI.out, HS.out, HM.out]; rfl, hkept.trans hk1⟩
    · have hk64 : k = 64 := by omega
      go_wp2_with fail
      go_ret
      exact ⟨by rw [← HI.out, hk64]; rfl, hkept⟩
end Go.Proofs.Ytnmkejdepmijeaa.C

/- The reference's Take. -/
import Derived.Test.YtnmkejdepmijeaaRB
namespace Go.Proofs.Ytnmkejdepmijeaa.C
open Go.RowKit

set_option maxHeartbeats 1000000 in
theorem rtake_c (w : World) (tb sb cap : Nat) (L : Nat → Id) (fl : Int) (h : RTab w tb sb cap L) :
    Calls Try.prog 16 #[.pointer (some ⟨tb, 0, none⟩), .int .i64 fl] w fun e w' => e = .returned (.tuple #[.int .i64 (take0 L fl), .int .i64 (take1 L fl), .int .i64 (take2 L fl)]) ∧ RTab w' tb sb cap (takeL L fl) ∧ w.grownBy w' (some sb) := by
  have H := Lib.hid h
  clear h
  go_enter Try.func16, Try.ntmps16
  go_wp2
  go_loopw [7, 8] (fun i _ wr => ∃ k : Nat, k ≤ 64 ∧ i = .int .i64 k ∧ Kept w wr ∧ Hid (takeI L fl = idxF (fun i => mayB (L i) fl) (64 - k) k)) (fun i _ _ => 64 - (intOf i).toNat)
  case atStart => exact ⟨0, by omega, rfl, Kept.refl _, rfl⟩
  case round =>
    obtain ⟨k, hk, rfl, hkept, HI⟩ := hrel
    by_cases hlt : k < 64
    · have hT := H.out.kept hkept
      have HT := Lib.hid hT
      have hd := hT.hd
      have c0 := hT.c0 k hlt
      have c1 := hT.c1 k hlt
      have c2 := hT.c2 k hlt
      have c3 := hT.c3 k hlt
      have f0 := hT.fz (k * 4)
      have hne := hT.ne
      have hlt1 := hT.lt
      have hlt2 := hT.ltt
      have HS : Hid (idxF (fun i => mayB (L i) fl) (64 - k) k = if mayB (L k) fl then (k : Int) else idxF (fun i => mayB (L i) fl) (64 - (k + 1)) (k + 1)) := by
        rw [show 64 - k = (64 - (k + 1)) + 1 from by omega]; rfl
      clear hT
      cases hon : (L k).on <;> cases hkd : (L k).kd <;> by_cases h1 : (L k).tm < fl <;> by_cases h2 : (L k).ep < 65535
      all_goals
        cases hm : mayB (L k) fl
        · first
          | (exfalso; unfold mayB at hm; simp [hon, hkd, h1, h2] at hm; done)
          | (have HM := Lib.hid hm
             rw [hon] at c0
             rw [hkd] at c2
             clear hon hkd hm
             go_wp2
             go_roundw
             case rel => exact ⟨k + 1, by omega, by go_num, hkept.alloc _, by rw [show takeI L fl = _ from HI.out, HS.out, HM.out]; rfl⟩
             case measure => simp [intOf]; omega)
        · first
          | (exfalso; unfold mayB at hm; simp [hon, hkd, h1, h2] at hm; done)
          | (have E : Hid (take0 L fl = k ∧ take1 L fl = (L k).ep ∧ take2 L fl = 0 ∧ takeL L fl = upd L k { L k with on := true }) := by
               have hi : takeI L fl = k := by rw [HI.out, HS.out, hm]; rfl
               unfold Hid take0 take1 take2 takeL
               rw [hi, if_neg (by omega), if_neg (by omega), if_neg (by omega), if_neg (by omega)]
               exact ⟨rfl, rfl, rfl, rfl⟩
             rw [hon] at c0
             rw [hkd] at c2
             clear hon hkd hm
             go_wp2
             go_quiet (fail)
             go_wp2
             go_ret3
             exact ⟨by rw [E.out.1, E.out.2.1, E.out.2.2.1]; rfl, by rw [E.out.2.2.2]; exact (((HT.out.setOn k hlt true).kept ((Kept.refl _).alloc _)).kept ((Kept.refl _).drewN _)),
               (grownBy_kept hkept (some sb)).trans ((grownBy_setCell wr ⟨sb, k * 4, none⟩ (.bool true)).trans (grownBy_kept (((Kept.refl _).alloc _).drewN _) _))⟩)
    · have hk64 : k = 64 := by omega
      have hd := (H.out.kept hkept).hd
      have E : Hid (take0 L fl = 0 ∧ take1 L fl = 0 ∧ take2 L fl = 2 ∧ takeL L fl = L) := by
        have hi : takeI L fl = -1 := by rw [HI.out, hk64]; rfl
        unfold Hid take0 take1 take2 takeL
        rw [hi, if_pos (by omega), if_pos (by omega), if_pos (by omega), if_pos (by omega)]
        exact ⟨rfl, rfl, rfl, rfl⟩
      clear hk64
      go_wp2
      go_ret3
      exact ⟨by rw [E.out.1, E.out.2.1, E.out.2.2.1]; rfl, by rw [E.out.2.2.2]; exact H.out.kept hkept, grownBy_kept hkept _⟩
end Go.Proofs.Ytnmkejdepmijeaa.C

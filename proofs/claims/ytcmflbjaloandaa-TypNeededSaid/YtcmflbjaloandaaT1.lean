/- One frame: the contracts at a table of one. -/
import Derived.Test.YtcmflbjaloandaaS
import Derived.Test.YtcmflbjaloandaaR
namespace Go.Proofs.Ytcmflbjaloandaa.C
open Go.RowKit

def one (x : Fm) : Nat → Fm := upd (fun _ => fresh) 0 x
theorem one_fresh : (fun _ => fresh) = one fresh := by funext j; simp [one, upd]
theorem one_at (x : Fm) : one x 0 = x := by simp [one, upd]
theorem upd_one (x y : Fm) : upd (one x) 0 y = one y := by unfold one; rw [upd_upd]
theorem getF_one (x : Fm) : getF 1 (one x) 0 = x := by unfold getF; rw [if_pos (by omega)]; exact one_at x

def rtX (x : Fm) (to : Int) (q : Bool) : Fm := if rtOk x to q = 0 then { x with ty := to } else x
def utOk (x : Fm) : Int := if x.ty = 0 then 4 else if x.ct ≠ 0 then 10 else 0
def utX (x : Fm) (now : Int) (p : Bool) : Fm := if utOk x = 0 then ⟨0, x.ct, max x.fr now, if p = true ∧ x.ty = 2 then 3 else x.ty⟩ else x
def rfOk (x : Fm) : Int := if x.ty = 0 then 4 else if 1000 ≤ x.ct then 2 else 0
def rfX (x : Fm) : Fm := if rfOk x = 0 then { x with ct := x.ct + 1 } else x
def urOk (x : Fm) : Int := if x.ct = 0 then 3 else 0
def urX (x : Fm) (now : Int) : Fm := if urOk x = 0 then { x with ct := x.ct - 1, fr := if x.ct = 1 then max x.fr now else x.fr } else x

theorem rtE_one (x : Fm) (to : Int) (q : Bool) : rtE 1 (one x) 0 to q = rtOk x to q := by
  unfold rtE; rw [if_pos (by omega)]; rw [show (0 : Int).toNat = 0 from rfl, one_at]
theorem rtL_one (x : Fm) (to : Int) (q : Bool) : rtL 1 (one x) 0 to q = one (rtX x to q) := by
  unfold rtL rtX; rw [rtE_one]
  split
  · rw [show (0 : Int).toNat = 0 from rfl, one_at, upd_one]
  · rfl
theorem utE_one (x : Fm) : utE 1 (one x) 0 = utOk x := by
  unfold utE; rw [if_pos (by omega)]; rw [show (0 : Int).toNat = 0 from rfl, one_at]; rfl
theorem utL_one (x : Fm) (now : Int) (p : Bool) : utL 1 (one x) 0 now p = one (utX x now p) := by
  unfold utL utX; rw [utE_one]
  split
  · rw [show (0 : Int).toNat = 0 from rfl, one_at, upd_one]
  · rfl
theorem rfE_one (x : Fm) : rfE 1 (one x) 0 = rfOk x := by
  unfold rfE; rw [if_pos (by omega)]; rw [show (0 : Int).toNat = 0 from rfl, one_at]; rfl
theorem rfL_one (x : Fm) : rfL 1 (one x) 0 = one (rfX x) := by
  unfold rfL rfX; rw [rfE_one]
  split
  · rw [show (0 : Int).toNat = 0 from rfl, one_at, upd_one]
  · rfl
theorem urE_one (x : Fm) : urE 1 (one x) 0 = urOk x := by
  unfold urE; rw [if_pos (by omega)]; rw [show (0 : Int).toNat = 0 from rfl, one_at]; rfl
theorem urL_one (x : Fm) (now : Int) : urL 1 (one x) 0 now = one (urX x now) := by
  unfold urL urX; rw [urE_one]
  split
  · rw [show (0 : Int).toNat = 0 from rfl, one_at, upd_one]
  · rfl

variable {w : World} {tb sb cap : Nat} {x : Fm}
theorem retype1 (h : Tb w tb sb 1 cap (one x)) (to : Int) (q : Bool) :
    Calls Try.prog 7 #[.pointer (some ⟨tb, 0, none⟩), .int .i64 0, .int .i64 to, .bool q] w fun e w' => e = .returned (.int .i64 (rtOk x to q)) ∧ Tb w' tb sb 1 cap (one (rtX x to q)) ∧ w.grownBy w' (some sb) := by
  have k := retype_c w tb sb 1 cap (one x) 0 to q h
  rw [rtE_one, rtL_one] at k; exact k
theorem untype1 (h : Tb w tb sb 1 cap (one x)) (now : Int) (p : Bool) :
    Calls Try.prog 8 #[.pointer (some ⟨tb, 0, none⟩), .int .i64 0, .int .i64 now, .bool p] w fun e w' => e = .returned (.int .i64 (utOk x)) ∧ Tb w' tb sb 1 cap (one (utX x now p)) ∧ w.grownBy w' (some sb) := by
  have k := untype_c w tb sb 1 cap (one x) 0 now p h
  rw [utE_one, utL_one] at k; exact k
theorem ref1 (h : Tb w tb sb 1 cap (one x)) :
    Calls Try.prog 9 #[.pointer (some ⟨tb, 0, none⟩), .int .i64 0] w fun e w' => e = .returned (.int .i64 (rfOk x)) ∧ Tb w' tb sb 1 cap (one (rfX x)) ∧ w.grownBy w' (some sb) := by
  have k := ref_c w tb sb 1 cap (one x) 0 h
  rw [rfE_one, rfL_one] at k; exact k
theorem unref1 (h : Tb w tb sb 1 cap (one x)) (now : Int) :
    Calls Try.prog 10 #[.pointer (some ⟨tb, 0, none⟩), .int .i64 0, .int .i64 now] w fun e w' => e = .returned (.int .i64 (urOk x)) ∧ Tb w' tb sb 1 cap (one (urX x now)) ∧ w.grownBy w' (some sb) := by
  have k := unref_c w tb sb 1 cap (one x) 0 now h
  rw [urE_one, urL_one] at k; exact k
theorem type1 (h : Tb w tb sb 1 cap (one x)) : Calls Try.prog 11 #[.pointer (some ⟨tb, 0, none⟩), .int .i64 0] w fun e w' => e = .returned (.int .i64 x.ty) ∧ Kept w w' := by
  have k := type_c w tb sb 1 cap (one x) 0 h
  rw [getF_one] at k; exact k
theorem count1 (h : Tb w tb sb 1 cap (one x)) : Calls Try.prog 12 #[.pointer (some ⟨tb, 0, none⟩), .int .i64 0] w fun e w' => e = .returned (.int .i64 x.ct) ∧ Kept w w' := by
  have k := count_c w tb sb 1 cap (one x) 0 h
  rw [getF_one] at k; exact k
theorem freed1 (h : Tb w tb sb 1 cap (one x)) : Calls Try.prog 13 #[.pointer (some ⟨tb, 0, none⟩), .int .i64 0] w fun e w' => e = .returned (.int .i64 x.fr) ∧ Kept w w' := by
  have k := freed_c w tb sb 1 cap (one x) 0 h
  rw [getF_one] at k; exact k
theorem was1 (h : Tb w tb sb 1 cap (one x)) : Calls Try.prog 14 #[.pointer (some ⟨tb, 0, none⟩), .int .i64 0] w fun e w' => e = .returned (.int .i64 x.wa) ∧ Kept w w' := by
  have k := was_c w tb sb 1 cap (one x) 0 h
  rw [getF_one] at k; exact k
theorem new1 (w : World) : Calls Try.prog 15 #[.int .i64 1] w fun e w' => ∃ sb cap, e = .returned (.tuple #[.pointer (some ⟨w.heap.size, 0, none⟩), .int .i64 0]) ∧ Tb w' w.heap.size sb 1 cap (one fresh) ∧ w.heap.size ≤ sb ∧ Kept w w' := by
  have k := new_c w 1 (by omega) (by omega)
  rw [one_fresh] at k; exact k
theorem Kept.on {a w w' : World} (h : Kept a w) {sb : Nat} (hsb : a.heap.size ≤ sb) (g : w.grownBy w' (some sb)) : Kept a w' :=
  Below.grown h g h.size (fun k hk => by cases hk; exact hsb)

theorem awake_c (w : World) : Calls Try.prog 16 #[] w fun e w' => e = .returned (.bool true) ∧ Kept w w' := by
  go_enter Try.func16, Try.ntmps16
  go_wp2_with fail
  refine (new1 _).mono ?_
  rintro e w1 ⟨sb, cap, rfl, hT, hsb, hk⟩
  have HT := Lib.hid hT
  have HK := Lib.hid hk
  clear hT hk
  go_wp2_with fail
  refine (retype1 HT.out 1 true).mono ?_
  rintro e w2 ⟨rfl, hT2, hg⟩
  rw [show rtOk fresh 1 true = 0 from rfl]
  rw [show rtX fresh 1 true = ⟨1, 0, -1, 0⟩ from rfl] at hT2
  have HT2 := Lib.hid hT2
  have HK := Lib.hid (HK.out.on hsb hg)
  clear hT2 hg
  go_wp2_with fail
  refine (type1 HT2.out).mono ?_
  rintro e w3 ⟨rfl, hk3⟩
  have HK := Lib.hid (HK.out.trans hk3)
  clear hk3
  go_wp2_with fail
  go_ret
  exact ⟨rfl, HK.out⟩
end Go.Proofs.Ytcmflbjaloandaa.C

/- The walk of RadixBack: it returns true. -/
import Derived.Test.YtkdibpnjldocoaaW
namespace Go.Proofs.Ytkdibpnjldocoaa.C
open Go.RowKit

set_option maxRecDepth 100000 in
set_option maxHeartbeats 1000000 in
theorem Back_w (a x y z : Int) (_ : (Lit.int .i64 a).wf = true) (_ : (Lit.int .i64 x).wf = true) (_ : (Lit.int .i64 y).wf = true) (_ : (Lit.int .i64 z).wf = true) (w : World) :
    Calls Try.prog 5 #[.int .i64 a, .int .i64 x, .int .i64 y, .int .i64 z] w fun e w' => e = .returned (.bool true) ∧ Kept w w' := by
  go_enter Try.func5, Try.ntmps5
  go_wp2_with (first | (go_at_call 6; refine (slot_c _ _).mono ?_; rintro e w' ⟨rfl, n, rfl⟩) | (go_at_call 10; refine (slotOf_c _ _ _).mono ?_; rintro e w' ⟨rfl, n, rfl⟩) | (go_at_call 7; refine (page_c _ _).mono ?_; rintro e w' ⟨rfl, hb⟩) | (go_at_call 13; refine (pageOf_c _ _ _ _).mono ?_; rintro e w' ⟨rfl, hb⟩) | (go_at_call 15; refine (number_c _ _).mono ?_; rintro e w' ⟨rfl, hb⟩) | (go_at_call 9; refine (rslot_c _ _).mono ?_; rintro e w' ⟨rfl, n, rfl⟩) | (go_at_call 11; refine (rslotOf_c _ _ _).mono ?_; rintro e w' ⟨rfl, n, rfl⟩) | (go_at_call 12; refine (rpage_c _ _).mono ?_; rintro e w' ⟨rfl, n, rfl⟩) | (go_at_call 14; refine (rpageOf_c _ _ _ _).mono ?_; rintro e w' ⟨rfl, n, rfl⟩) | (go_at_call 16; refine (rnumber_c _ _).mono ?_; rintro e w' ⟨rfl, n, rfl⟩) | (go_at_call 8; refine (awake_c _).mono ?_; rintro e w' ⟨rfl, hb⟩))
  all_goals
    go_ret
    refine ⟨ret_b ?_, ?_⟩
    rotate_left
    · repeat (first | exact Kept.refl _ | assumption | apply Kept.drewN | apply Kept.drew | apply Kept.alloc | (refine Kept.trans ?_ (by assumption)))
    first
    | rfl
    | (exfalso
       have f0 := sl_f a
       have f1 := so_f (sl0 a) (sl1 a)
       have f2 := pg_f a
       have f3 := po_f (pg0 a) (pg1 a) (pg2 a)
       have f4 := nb_f a
       have f5 := po_f x y z
       have f6 := pg_f (po0 x y z)
       have f7 := wq_f a
       simp at *
       omega)
end Go.Proofs.Ytkdibpnjldocoaa.C

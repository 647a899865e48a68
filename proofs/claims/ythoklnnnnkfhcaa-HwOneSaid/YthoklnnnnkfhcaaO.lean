/- The walk of HwOne: a line leads to one place at most. -/
import Derived.Test.YthoklnnnnkfhcaaF
namespace Go.Proofs.Ythoklnnnnkfhcaa.C
open Go.RowKit Go.Maps

set_option maxRecDepth 100000 in
set_option maxHeartbeats 4000000 in
theorem One_w (line f g : Int) (a0 : Option Addr) (l0 c0 : Nat) (z0 : Nat → Int) (w : World) (_ : (Lit.int .i64 line).wf = true) (_ : (Lit.int .i64 f).wf = true) (_ : (Lit.int .i64 g).wf = true)
    (s0 : RowI .i64 w a0 l0 z0) :
    Calls Try.prog 5 #[.int .i64 line, .int .i64 f, .int .i64 g, .slice a0 l0 c0] w fun e w' => e = .returned (.bool true) ∧ Kept w w' := by
  obtain ⟨m0, r0⟩ := s0
  unfold maxLen at m0
  have R0 := Lib.hid r0
  clear r0
  go_enter Try.func5, Try.ntmps5
  go_wp2_with fail
  refine (new_c _).mono ?_
  rintro e w1 ⟨rfl, hT, hk⟩
  have HS : Hid (St w 0 (fun _ => none) w1) := ⟨hT, hk⟩
  clear hT hk
  go_wp2_with fail
  go_loopw [10] (fun i wr => ∃ (j : Nat) (M : Nat → Option Int), j ≤ 20 ∧ i = .int .i64 j ∧ Hid (St w j M wr)) (fun i _ => 20 - (intOf i).toNat)
  case atStart => exact ⟨0, _, by omega, rfl, HS⟩
  case round =>
    obtain ⟨j, M, hj, rfl, hs⟩ := hrel
    clear HS
    by_cases hlt : j < l0 ∧ j < 20
    · obtain ⟨q0, q4⟩ := hlt
      obtain ⟨b0, o0, rfl, hc0⟩ := R0.out (by omega)
      have g0 := Below.old hs.out.bel (hc0 j q0).1
      clear hc0 R0
      go_wp2_with fail
      refine (attach_c _ _ _ _ _ _ _ (by omega) hs.out.t).mono ?_
      rintro e w2 ⟨rfl, hT2, hg2⟩
      have HX := Lib.hid (hs.out.step hT2 hg2)
      clear hT2 hg2
      go_wp2_with fail
      go_roundw
      case rel => exact ⟨j + 1, _, by omega, by go_num, HX⟩
      case measure => simp [intOf]; omega
    · clear R0
      by_cases q0 : j < l0 <;> by_cases q4 : j < 20
      all_goals
        first
        | (exfalso; omega)
        | (clear hlt
           go_wp2_with fail
           go_loop [11, 12] (fun n x => ∃ k : Nat, k ≤ 64 ∧ x = .int .i64 k ∧ n = .int .i64 (sumH M 8 k)) (fun _ x => 64 - (intOf x).toNat)
           case atStart => exact ⟨0, by omega, rfl, rfl⟩
           case round =>
             obtain ⟨k, hk, rfl, rfl⟩ := hrel
             have hsum := sumH_le M k 8
             have hhas := hasF_le M (k : Int) 8
             by_cases hlt2 : k < 64
             · have HE : Hid (sumH M 8 (k + 1) = sumH M 8 k + hasF M (k : Int) 8) := rfl
               go_wp2_with (go_at_call 10; refine (has_c _ _ _ _ _ _ hs.out.t).mono ?_; rintro e w' ⟨rfl, rfl⟩)
               go_round
               case rel => exact ⟨k + 1, by omega, by go_num, by rw [HE.out]; go_num⟩
               case measure => simp [intOf]; omega
             · clear hhas
               go_wp2_with fail
               refine (detach_c _ _ _ _ _ _ hs.out.t).mono ?_
               rintro e w3 ⟨rfl, hT3, hg3⟩
               have H3 := Lib.hid (hs.out.step hT3 hg3)
               clear hT3 hg3 hs
               go_wp2_with fail
               refine (attach_c _ _ _ _ _ _ _ (by omega) H3.out.t).mono ?_
               rintro e w4 ⟨rfl, hT4, hg4⟩
               have H4 := Lib.hid (H3.out.step hT4 hg4)
               clear hT4 hg4 H3
               go_wp2_with fail
               refine (attach_c _ _ _ _ _ _ _ (by omega) H4.out.t).mono ?_
               rintro e w5 ⟨rfl, hT5, hg5⟩
               have H5 := Lib.hid (H4.out.step hT5 hg5)
               clear hT5 hg5 H4
               go_wp2_with fail
               refine (of_c _ _ _ _ _ _ H5.out.t).mono ?_
               rintro e w6 ⟨rfl, rfl⟩
               by_cases hok : atOk line f
               · obtain ⟨e1, e2, e3, e4, e5⟩ := one_in M line f g hok
                 have h0 : ofE (atM (atM (deM M line) line f) line g) line = 0 := e3
                 rw [e1, e3, e4]
                 have E := Lib.hid (And.intro e3 (And.intro e4 e5))
                 clear e1 e3 e4 e5 h0 hok
                 have b1 : (atE (atM (deM M line) line f) line g != 0) = true := by rcases e2 with e2 | e2 <;> rw [e2] <;> rfl
                 clear e2
                 generalize atE (atM (deM M line) line f) line g = hh at b1 ⊢
                 go_wp2_with fail
                 refine (detach_c _ _ _ _ _ _ H5.out.t).mono ?_
                 rw [E.out.1, E.out.2.1]
                 rintro e w7 ⟨rfl, hT7, hg7⟩
                 have H7 := Lib.hid (H5.out.step hT7 hg7)
                 clear hT7 hg7 H5
                 go_wp2_with fail
                 refine (of_c _ _ _ _ _ _ H7.out.t).mono ?_
                 rw [E.out.2.2]
                 rintro e w8 ⟨rfl, rfl⟩
                 go_wp2_with fail
                 refine (awake_c _).mono ?_
                 rintro e w9 ⟨rfl, hk9⟩
                 have H9 := Lib.hid (H7.out.kept hk9).bel
                 clear hk9
                 go_wp2_with fail
                 go_ret
                 exact ⟨rfl, H9.out⟩
               · obtain ⟨e1, e2⟩ := one_out M line f g hok
                 rw [e1]
                 clear e1 hok
                 rcases e2 with ⟨e2, e3⟩ | ⟨e2, e3 | e3⟩
                 all_goals
                   rw [e2, e3]
                   clear e2 e3
                   go_wp2_with fail
                   refine (awake_c _).mono ?_
                   rintro e w9 ⟨rfl, hk9⟩
                   have H9 := Lib.hid (H5.out.kept hk9).bel
                   clear hk9
                   go_wp2_with fail
                   go_ret
                   exact ⟨rfl, H9.out⟩)

theorem One_wf (a0 a1 a2 : Int) (a3 : Option Addr) (len3 cap3 : Nat) (z3 : Nat → Int) (w : World) (w0 : (Lit.int .i64 a0).wf = true) (w1 : (Lit.int .i64 a1).wf = true) (w2 : (Lit.int .i64 a2).wf = true) (s3 : RowI .i64 w a3 len3 z3) :
    Calls Try.prog 5 #[.int .i64 a0, .int .i64 a1, .int .i64 a2, .slice a3 len3 cap3] w fun e w' => e = .returned (.bool true) ∧ Kept w w' :=
  One_w a0 a1 a2 a3 len3 cap3 z3 w w0 w1 w2 s3
end Go.Proofs.Ythoklnnnnkfhcaa.C

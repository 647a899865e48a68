/- The walk of LiveOnce: no id is taken twice in one epoch. -/
import Derived.Test.YtnmkejdepmijeaaS2
import Derived.Deep.RegionHeld3
namespace Go.Proofs.Ytnmkejdepmijeaa.C
open Go.RowKit

set_option maxRecDepth 100000 in
set_option maxHeartbeats 8000000 in
theorem Once_w (a0 a1 a2 : Option Addr) (l0 l1 l2 c0 c1 c2 : Nat) (z0 z1 z2 : Nat → Int) (w : World)
    (s0 : RowI .u8 w a0 l0 z0) (s1 : RowI .u8 w a1 l1 z1) (s2 : RowI .u8 w a2 l2 z2) :
    Calls Try.prog 3 #[.slice a0 l0 c0, .slice a1 l1 c1, .slice a2 l2 c2] w fun e w' => e = .returned (.bool true) ∧ Kept w w' := by
  obtain ⟨m0, r0⟩ := s0
  obtain ⟨m1, r1⟩ := s1
  obtain ⟨m2, r2⟩ := s2
  unfold maxLen at m0 m1 m2
  have R0 := Lib.hid r0
  have R1 := Lib.hid r1
  have R2 := Lib.hid r2
  clear r0 r1 r2
  have infoI : (Try.prog.info? 3).map (fun i => (i.zero, i.size, i.bytes)) = some (some (.int .i64 0), 1, 8) := by kernel_rfl
  obtain ⟨iI, hI, hI0, hI1, hI2⟩ := info_parts infoI
  have infoB : (Try.prog.info? 4).map (fun i => (i.zero, i.size, i.bytes)) = some (some (.bool false), 1, 1) := by kernel_rfl
  obtain ⟨iB, hB, hB0, hB1, hB2⟩ := info_parts infoB
  have II := Lib.hid (And.intro hI (And.intro hI0 (And.intro hI1 hI2)))
  have IB := Lib.hid (And.intro hB (And.intro hB0 (And.intro hB1 hB2)))
  clear infoI infoB hI hI0 hI1 hI2 hB hB0 hB1 hB2
  go_enter Try.func3, Try.ntmps3
  go_wp2_with fail
  refine (new_c _).mono ?_
  rintro e w1 ⟨rfl, hT, hk⟩
  have HS : Hid (Once w zeroL [] (.slice none 0 0) (.slice none 0 0) (.slice none 0 0) w1) :=
    ⟨hT, hk, by have := hT.ltt; omega, ⟨World.ownsRow_nil _ _ _ _, World.ownsRow_nil _ _ _ _, World.ownsRow_nil _ _ _ _, .inl rfl, .inl rfl, .inl rfl⟩, InvO.zero⟩
  clear hT hk
  go_wp2_with fail
  go_loopw [8, 9, 10, 11, 12, 13, 14, 15, 16, 17, 18] (fun v8 v9 v10 i _ _ _ _ _ _ _ wr => ∃ (j n : Nat) (d8 d9 d10 : Option Addr) (e8 e9 e10 : Nat) (L : Nat → Id) (H : List Ent), j ≤ 100 ∧ n ≤ j ∧ i = .int .i64 j ∧ v8 = .slice d8 n e8 ∧ v9 = .slice d9 n e9 ∧ v10 = .slice d10 n e10 ∧
      Hid (n = H.length ∧ Once w L H (.slice d8 n e8) (.slice d9 n e9) (.slice d10 n e10) wr)) (fun _ _ _ i _ _ _ _ _ _ _ _ => 100 - (intOf i).toNat)
  case atStart => exact ⟨0, 0, none, none, none, 0, 0, 0, zeroL, [], by omega, by omega, rfl, rfl, rfl, rfl, rfl, HS⟩
  case round =>
    obtain ⟨j, n, d8, d9, d10, e8, e9, e10, L, H, hj, hnj, rfl, rfl, rfl, rfl, hs⟩ := hrel
    clear HS
    by_cases hlt : j < l0 ∧ j < l1 ∧ j < l2 ∧ j < 100
    · obtain ⟨q0, q1, q2, q4⟩ := hlt
      obtain ⟨b0, o0, rfl, hc0⟩ := R0.out (by omega)
      obtain ⟨b1, o1, rfl, hc1⟩ := R1.out (by omega)
      obtain ⟨b2, o2, rfl, hc2⟩ := R2.out (by omega)
      have g0 := Below.old hs.out.2.bel (hc0 j q0).1
      have g1 := Below.old hs.out.2.bel (hc1 j q1).1
      have g2 := Below.old hs.out.2.bel (hc2 j q2).1
      obtain ⟨bd1, bd2⟩ := bd_u8 (hc1 j q1).2
      obtain ⟨bd3, bd4⟩ := bd_u8 (hc2 j q2).2
      clear hc0 hc1 hc2 R0 R1 R2
      by_cases hn : 0 < n
      · have hn1 : (0 : Int) < n := by omega
        obtain ⟨kk, hkk, hkn⟩ : ∃ kk : Nat, z1 j % n = kk ∧ kk < n := ⟨(z1 j % n).toNat, by have := Int.emod_nonneg (z1 j) (b := (n : Int)) (by omega); omega, by have := Int.emod_nonneg (z1 j) (b := (n : Int)) (by omega); have := Int.emod_lt_of_pos (z1 j) hn1; omega⟩
        go_wp2_with fail
        · obtain ⟨en, hen⟩ : ∃ f, H[kk]? = some f := ⟨_, List.getElem?_eq_getElem (by have := hs.out.1; omega)⟩
          obtain ⟨t8, t9, t10, rfl, rfl, rfl⟩ := hs.out.2.cells hs.out.1 hn
          have f8 := hs.out.2.mid.at8 hs.out.1 hen
          have f9 := hs.out.2.mid.at9 hs.out.1 hen
          have FB := Lib.hid (And.intro f8 f9)
          have HE := Lib.hid hen
          have x0 : (0 : Int) ≤ kk := by omega
          have x1 : (kk : Int) < n := by omega
          cases hdd : en.dd
          all_goals
            have HK : Hid (killE L en.id en.ep = _) := (hs.out.2.inv.kill hen (j : Int)).1
            rw [hdd] at HK
            go_region_held3 (fun w' => w'.cell? ⟨t8, kk, none⟩ = some (.int .i64 (en.id : Int)) ∧ w'.cell? ⟨t9, kk, none⟩ = some (.int .i64 en.ep))
              (first | exact FB.out | exact FC.out)
              (first
               | (go_at_call 9; refine (kill_c _ (w.heap.size + 1) w.heap.size L _ _ _ ?_).mono ?_; (first | exact hs.out.2.t | exact (hs.out.2.kept ((Kept.refl _).drew)).t); rw [HK.out]; rintro e w3 ⟨rfl, hT3, hg3⟩; have hx := (hs.out.2.kept ((Kept.refl _).drew)).mid.stepT hT3 hg3; have h8 := hx.at8 hs.out.1 HE.out; have h9 := hx.at9 hs.out.1 HE.out; have FC := Lib.hid (And.intro h8 h9); have HZ := Lib.hid ((hs.out.2.kept ((Kept.refl _).drew)).killed hs.out.1 HE.out hT3 hg3); obtain ⟨h10, h10f⟩ := hx.at10 hs.out.1 HE.out; rw [hdd] at h10; clear hx hT3 hg3 h8 h9))
            clear hdd hen f8 f9
            go_wp2_with fail
            go_wp2_with fail
            go_loopw [18] (fun i wr' => ∃ m : Nat, m ≤ n ∧ i = .int .i64 m ∧ Hid (n = (H.set kk { en with dd := true }).length ∧ Once w (killL L en.id en.ep j) (H.set kk { en with dd := true }) (.slice (some ⟨t8, 0, none⟩) n e8) (.slice (some ⟨t9, 0, none⟩) n e9) (.slice (some ⟨t10, 0, none⟩) n e10) wr')) (fun i _ => n - (intOf i).toNat)
            case atStart => exact ⟨0, by omega, rfl, HZ⟩
            case round =>
              obtain ⟨m, hm, rfl, hz⟩ := hrel
              clear HZ
              by_cases hmn : m < n
              · obtain ⟨f, hf⟩ : ∃ f, (H.set kk { en with dd := true })[m]? = some f := ⟨_, List.getElem?_eq_getElem (by have := hz.out.1; omega)⟩
                obtain ⟨p8, p9, p10, e1, e2, e3⟩ := hz.out.2.cells hz.out.1 (by omega)
                injection e1 with e1; injection e1 with e1; subst e1
                injection e2 with e2; injection e2 with e2; subst e2
                injection e3 with e3; injection e3 with e3; subst e3
                have f8 := hz.out.2.mid.at8 hz.out.1 hf
                have f9 := hz.out.2.mid.at9 hz.out.1 hf
                have f10 := (hz.out.2.mid.at10 hz.out.1 hf).1
                have HV := Lib.hid (hz.out.2.inv.valid hf)
                have FB := Lib.hid (And.intro f8 (And.intro f9 f10))
                have y0 : (0 : Int) ≤ m := by omega
                have y1 : (m : Int) < n := by omega
                clear hf
                go_wp2_with fail
                go_region_held3 (fun w' => w'.cell? ⟨t8, m, none⟩ = some (.int .i64 (f.id : Int)) ∧ w'.cell? ⟨t9, m, none⟩ = some (.int .i64 f.ep) ∧ w'.cell? ⟨t10, m, none⟩ = some (.bool f.dd))
                  (exact FB.out)
                  (first
                   | (go_at_call 11; refine (valid_c _ (w.heap.size + 1) w.heap.size (killL L en.id en.ep j) _ _ ?_).mono ?_; (first | exact hz.out.2.t | exact (hz.out.2.kept ((Kept.refl _).drew)).t); rw [HV.out]; rintro e w' ⟨rfl, rfl⟩))
                go_wp2_with fail
                go_roundw
                case rel => exact ⟨m + 1, by omega, by go_num, hz.out.1, hz.out.2.kept (Kept.refl _).drew⟩
                case measure => simp [intOf]; omega
              · go_wp2_with fail
                go_roundw
                case rel => exact ⟨j + 1, n, _, _, _, _, _, _, _, _, by omega, by omega, by go_num, rfl, rfl, rfl, hz⟩
                case measure => simp [intOf]; omega
        · refine (take_c _ _ _ _ _ hs.out.2.t).mono ?_
          rintro e w3 ⟨rfl, hT3, hg3⟩
          rcases hs.out.2.inv.take (z2 j) with ⟨e2, hi⟩ | ⟨k, e2, e0, hno, hi⟩
          · rw [e2]
            have HZ := Lib.hid (And.intro hs.out.1 ((hs.out.2.mid.stepT hT3 hg3).once hi))
            clear e2 hi hT3 hg3
            go_wp2_with fail
            go_loopw [18] (fun i wr' => ∃ m : Nat, m ≤ n ∧ i = .int .i64 m ∧ Hid (n = (H).length ∧ Once w (takeL L (z2 j)) (H) (.slice d8 n e8) (.slice d9 n e9) (.slice d10 n e10) wr')) (fun i _ => n - (intOf i).toNat)
            case atStart => exact ⟨0, by omega, rfl, HZ⟩
            case round =>
              obtain ⟨m, hm, rfl, hz⟩ := hrel
              clear HZ
              by_cases hmn : m < n
              · obtain ⟨f, hf⟩ : ∃ f, (H)[m]? = some f := ⟨_, List.getElem?_eq_getElem (by have := hz.out.1; omega)⟩
                obtain ⟨p8, p9, p10, rfl, rfl, rfl⟩ := hz.out.2.cells hz.out.1 (by omega)
                skip
                skip
                skip
                have f8 := hz.out.2.mid.at8 hz.out.1 hf
                have f9 := hz.out.2.mid.at9 hz.out.1 hf
                have f10 := (hz.out.2.mid.at10 hz.out.1 hf).1
                have HV := Lib.hid (hz.out.2.inv.valid hf)
                have FB := Lib.hid (And.intro f8 (And.intro f9 f10))
                have y0 : (0 : Int) ≤ m := by omega
                have y1 : (m : Int) < n := by omega
                clear hf
                go_wp2_with fail
                go_region_held3 (fun w' => w'.cell? ⟨p8, m, none⟩ = some (.int .i64 (f.id : Int)) ∧ w'.cell? ⟨p9, m, none⟩ = some (.int .i64 f.ep) ∧ w'.cell? ⟨p10, m, none⟩ = some (.bool f.dd))
                  (exact FB.out)
                  (first
                   | (go_at_call 11; refine (valid_c _ (w.heap.size + 1) w.heap.size (takeL L (z2 j)) _ _ ?_).mono ?_; (first | exact hz.out.2.t | exact (hz.out.2.kept ((Kept.refl _).drew)).t); rw [HV.out]; rintro e w' ⟨rfl, rfl⟩))
                go_wp2_with fail
                go_roundw
                case rel => exact ⟨m + 1, by omega, by go_num, hz.out.1, hz.out.2.kept (Kept.refl _).drew⟩
                case measure => simp [intOf]; omega
              · go_wp2_with fail
                go_roundw
                case rel => exact ⟨j + 1, n, _, _, _, _, _, _, _, _, by omega, by omega, by go_num, rfl, rfl, rfl, hz⟩
                case measure => simp [intOf]; omega
          · rw [e2, e0]
            have HM := Lib.hid ((hs.out.2.mid.stepT hT3 hg3).conv hs.out.1)
            have HI := Lib.hid hi
            have HN := Lib.hid hno
            obtain ⟨y, hy⟩ : ∃ y, y = take1 L (z2 j) := ⟨_, rfl⟩
            rw [← hy] at HI HN ⊢
            clear e2 e0 hi hno hT3 hg3 hy
            go_wp2_with fail
            go_loop [17] (fun i => ∃ m : Nat, m ≤ n ∧ i = .int .i64 m) (fun i => n - (intOf i).toNat)
            case atStart => exact ⟨0, by omega, rfl⟩
            case round =>
              obtain ⟨m, hm, rfl⟩ := hrel
              by_cases hmn : m < n
              · obtain ⟨f, hf⟩ : ∃ f, H[m]? = some f := ⟨_, List.getElem?_eq_getElem (by have := hs.out.1; omega)⟩
                obtain ⟨p8, p9, p10, rfl, rfl, rfl⟩ := HM.out.cells (by omega)
                have f8 := HM.out.in8 hf
                have f9 := HM.out.in9 hf
                have hno := HN.out f (List.mem_of_getElem? hf)
                have y0 : (0 : Int) ≤ m := by omega
                have y1 : (m : Int) < n := by omega
                clear hf
                by_cases hid : f.id = k
                · have t1 : ((f.id : Int) == (k : Int)) = true := by simp; omega
                  have t2 : (f.ep == y) = false := by simp; exact hno hid
                  clear hno hid
                  go_wp2
                  go_round
                  case rel => exact ⟨m + 1, by omega, by go_num⟩
                  case measure => simp [intOf]; omega
                · have t1 : ((f.id : Int) == (k : Int)) = false := by simp; omega
                  clear hno hid
                  go_wp2
                  go_round
                  case rel => exact ⟨m + 1, by omega, by go_num⟩
                  case measure => simp [intOf]; omega
              · obtain rfl : n = m := by omega
                clear hmn hm
                go_wp2_with (first | (at_builtin; refine wpList_append_own_at _ rfl _ _ 25 rfl (w.heap.size + 2) 3 iI (.int .i64 0) 1 8 Try.underlying25 II.out.1 II.out.2.1 II.out.2.2.1 II.out.2.2.2 rfl (by decide) _ _ _ rfl (HM.out.rows.o1.alloc _) ⟨w3.heap.size, 0, none⟩ 1 1 [.int .i64 (k : Int)] rfl rfl (cell_one_new _ _ _) (by simp [Value.oneCell']) (by unfold maxLen; omega) (by omega) (by have := HM.out.sz; simp; omega) ?_; intro v' w4 hown' hgrow _ hloc; obtain ⟨gw4, pw4, rfl⟩ := ownsRow_succ hown'; have Hw4 := Lib.hid ((HM.out.kept ((Kept.refl _).alloc _)).app1 hown' hgrow hloc); clear hown' hgrow hloc) | (at_builtin; refine wpList_append_own_at _ rfl _ _ 25 rfl (w.heap.size + 2) 3 iI (.int .i64 0) 1 8 Try.underlying25 II.out.1 II.out.2.1 II.out.2.2.1 II.out.2.2.2 rfl (by decide) _ _ _ rfl (Hw4.out.rows.o2.alloc _) ⟨w4.heap.size, 0, none⟩ 1 1 [.int .i64 y] rfl rfl (cell_one_new _ _ _) (by simp [Value.oneCell']) (by unfold maxLen; omega) (by omega) (by have := Hw4.out.sz; simp; omega) ?_; intro v' w5 hown' hgrow _ hloc; obtain ⟨gw5, pw5, rfl⟩ := ownsRow_succ hown'; have Hw5 := Lib.hid ((Hw4.out.kept ((Kept.refl _).alloc _)).app2 hown' hgrow hloc); clear hown' hgrow hloc) | (at_builtin; refine wpList_append_own_at _ rfl _ _ 26 rfl (w.heap.size + 2) 4 iB (.bool false) 1 1 Try.underlying26 IB.out.1 IB.out.2.1 IB.out.2.2.1 IB.out.2.2.2 rfl (by decide) _ _ _ rfl (Hw5.out.rows.o3.alloc _) ⟨w5.heap.size, 0, none⟩ 1 1 [.bool false] rfl rfl (cell_one_new _ _ _) (by simp [Value.oneCell']) (by unfold maxLen; omega) (by omega) (by have := Hw5.out.sz; simp; omega) ?_; intro v' w6 hown' hgrow _ hloc; obtain ⟨gw6, pw6, rfl⟩ := ownsRow_succ hown'; have Hw6 := Lib.hid ((Hw5.out.kept ((Kept.refl _).alloc _)).app3 hown' hgrow hloc); clear hown' hgrow hloc))
                have HZ := Lib.hid (Mid.grew (e := ⟨k, y, false⟩) Hw6.out hs.out.1 HI.out)
                go_loopw [18] (fun i wr' => ∃ m : Nat, m ≤ (n + 1) ∧ i = .int .i64 m ∧ Hid ((n + 1) = (H ++ [(⟨k, y, false⟩ : Ent)]).length ∧ Once w (takeL L (z2 j)) (H ++ [(⟨k, y, false⟩ : Ent)]) (.slice (some ⟨gw4, 0, none⟩) (n + 1) pw4) (.slice (some ⟨gw5, 0, none⟩) (n + 1) pw5) (.slice (some ⟨gw6, 0, none⟩) (n + 1) pw6) wr')) (fun i _ => (n + 1) - (intOf i).toNat)
                case atStart => exact ⟨0, by omega, rfl, HZ⟩
                case round =>
                  obtain ⟨m, hm, rfl, hz⟩ := hrel
                  clear HZ
                  by_cases hmn : m < (n + 1)
                  · obtain ⟨f, hf⟩ : ∃ f, (H ++ [(⟨k, y, false⟩ : Ent)])[m]? = some f := ⟨_, List.getElem?_eq_getElem (by have := hz.out.1; omega)⟩
                    obtain ⟨p8, p9, p10, e1, e2, e3⟩ := hz.out.2.cells hz.out.1 (by omega)
                    injection e1 with e1; injection e1 with e1; subst e1
                    injection e2 with e2; injection e2 with e2; subst e2
                    injection e3 with e3; injection e3 with e3; subst e3
                    have f8 := hz.out.2.mid.at8 hz.out.1 hf
                    have f9 := hz.out.2.mid.at9 hz.out.1 hf
                    have f10 := (hz.out.2.mid.at10 hz.out.1 hf).1
                    have HV := Lib.hid (hz.out.2.inv.valid hf)
                    have FB := Lib.hid (And.intro f8 (And.intro f9 f10))
                    have y0 : (0 : Int) ≤ m := by omega
                    have y1 : (m : Int) < (n + 1) := by omega
                    clear hf
                    go_wp2_with fail
                    go_region_held3 (fun w' => w'.cell? ⟨gw4, m, none⟩ = some (.int .i64 (f.id : Int)) ∧ w'.cell? ⟨gw5, m, none⟩ = some (.int .i64 f.ep) ∧ w'.cell? ⟨gw6, m, none⟩ = some (.bool f.dd))
                      (exact FB.out)
                      (first
                       | (go_at_call 11; refine (valid_c _ (w.heap.size + 1) w.heap.size (takeL L (z2 j)) _ _ ?_).mono ?_; (first | exact hz.out.2.t | exact (hz.out.2.kept ((Kept.refl _).drew)).t); rw [HV.out]; rintro e w' ⟨rfl, rfl⟩))
                    go_wp2_with fail
                    go_roundw
                    case rel => exact ⟨m + 1, by omega, by go_num, hz.out.1, hz.out.2.kept (Kept.refl _).drew⟩
                    case measure => simp [intOf]; omega
                  · go_wp2_with fail
                    go_roundw
                    case rel => exact ⟨j + 1, (n + 1), _, _, _, _, _, _, _, _, by omega, by omega, by go_num, rfl, rfl, rfl, hz⟩
                    case measure => simp [intOf]; omega
      · have hn0 : (n : Int) ≤ 0 := by omega
        go_wp2_with fail
        all_goals
          refine (take_c _ _ _ _ _ hs.out.2.t).mono ?_
          rintro e w3 ⟨rfl, hT3, hg3⟩
          rcases hs.out.2.inv.take (z2 j) with ⟨e2, hi⟩ | ⟨k, e2, e0, hno, hi⟩
          · rw [e2]
            have HZ := Lib.hid (And.intro hs.out.1 ((hs.out.2.mid.stepT hT3 hg3).once hi))
            clear e2 hi hT3 hg3
            go_wp2_with fail
            go_loopw [18] (fun i wr' => ∃ m : Nat, m ≤ n ∧ i = .int .i64 m ∧ Hid (n = (H).length ∧ Once w (takeL L (z2 j)) (H) (.slice d8 n e8) (.slice d9 n e9) (.slice d10 n e10) wr')) (fun i _ => n - (intOf i).toNat)
            case atStart => exact ⟨0, by omega, rfl, HZ⟩
            case round =>
              obtain ⟨m, hm, rfl, hz⟩ := hrel
              clear HZ
              by_cases hmn : m < n
              · obtain ⟨f, hf⟩ : ∃ f, (H)[m]? = some f := ⟨_, List.getElem?_eq_getElem (by have := hz.out.1; omega)⟩
                obtain ⟨p8, p9, p10, rfl, rfl, rfl⟩ := hz.out.2.cells hz.out.1 (by omega)
                skip
                skip
                skip
                have f8 := hz.out.2.mid.at8 hz.out.1 hf
                have f9 := hz.out.2.mid.at9 hz.out.1 hf
                have f10 := (hz.out.2.mid.at10 hz.out.1 hf).1
                have HV := Lib.hid (hz.out.2.inv.valid hf)
                have FB := Lib.hid (And.intro f8 (And.intro f9 f10))
                have y0 : (0 : Int) ≤ m := by omega
                have y1 : (m : Int) < n := by omega
                clear hf
                go_wp2_with fail
                go_region_held3 (fun w' => w'.cell? ⟨p8, m, none⟩ = some (.int .i64 (f.id : Int)) ∧ w'.cell? ⟨p9, m, none⟩ = some (.int .i64 f.ep) ∧ w'.cell? ⟨p10, m, none⟩ = some (.bool f.dd))
                  (exact FB.out)
                  (first
                   | (go_at_call 11; refine (valid_c _ (w.heap.size + 1) w.heap.size (takeL L (z2 j)) _ _ ?_).mono ?_; (first | exact hz.out.2.t | exact (hz.out.2.kept ((Kept.refl _).drew)).t); rw [HV.out]; rintro e w' ⟨rfl, rfl⟩))
                go_wp2_with fail
                go_roundw
                case rel => exact ⟨m + 1, by omega, by go_num, hz.out.1, hz.out.2.kept (Kept.refl _).drew⟩
                case measure => simp [intOf]; omega
              · go_wp2_with fail
                go_roundw
                case rel => exact ⟨j + 1, n, _, _, _, _, _, _, _, _, by omega, by omega, by go_num, rfl, rfl, rfl, hz⟩
                case measure => simp [intOf]; omega
          · rw [e2, e0]
            have HM := Lib.hid ((hs.out.2.mid.stepT hT3 hg3).conv hs.out.1)
            have HI := Lib.hid hi
            have HN := Lib.hid hno
            obtain ⟨y, hy⟩ : ∃ y, y = take1 L (z2 j) := ⟨_, rfl⟩
            rw [← hy] at HI HN ⊢
            clear e2 e0 hi hno hT3 hg3 hy
            go_wp2_with fail
            go_loop [17] (fun i => ∃ m : Nat, m ≤ n ∧ i = .int .i64 m) (fun i => n - (intOf i).toNat)
            case atStart => exact ⟨0, by omega, rfl⟩
            case round =>
              obtain ⟨m, hm, rfl⟩ := hrel
              by_cases hmn : m < n
              · obtain ⟨f, hf⟩ : ∃ f, H[m]? = some f := ⟨_, List.getElem?_eq_getElem (by have := hs.out.1; omega)⟩
                obtain ⟨p8, p9, p10, rfl, rfl, rfl⟩ := HM.out.cells (by omega)
                have f8 := HM.out.in8 hf
                have f9 := HM.out.in9 hf
                have hno := HN.out f (List.mem_of_getElem? hf)
                have y0 : (0 : Int) ≤ m := by omega
                have y1 : (m : Int) < n := by omega
                clear hf
                by_cases hid : f.id = k
                · have t1 : ((f.id : Int) == (k : Int)) = true := by simp; omega
                  have t2 : (f.ep == y) = false := by simp; exact hno hid
                  clear hno hid
                  go_wp2
                  go_round
                  case rel => exact ⟨m + 1, by omega, by go_num⟩
                  case measure => simp [intOf]; omega
                · have t1 : ((f.id : Int) == (k : Int)) = false := by simp; omega
                  clear hno hid
                  go_wp2
                  go_round
                  case rel => exact ⟨m + 1, by omega, by go_num⟩
                  case measure => simp [intOf]; omega
              · obtain rfl : n = m := by omega
                clear hmn hm
                go_wp2_with (first | (at_builtin; refine wpList_append_own_at _ rfl _ _ 25 rfl (w.heap.size + 2) 3 iI (.int .i64 0) 1 8 Try.underlying25 II.out.1 II.out.2.1 II.out.2.2.1 II.out.2.2.2 rfl (by decide) _ _ _ rfl (HM.out.rows.o1.alloc _) ⟨w3.heap.size, 0, none⟩ 1 1 [.int .i64 (k : Int)] rfl rfl (cell_one_new _ _ _) (by simp [Value.oneCell']) (by unfold maxLen; omega) (by omega) (by have := HM.out.sz; simp; omega) ?_; intro v' w4 hown' hgrow _ hloc; obtain ⟨gw4, pw4, rfl⟩ := ownsRow_succ hown'; have Hw4 := Lib.hid ((HM.out.kept ((Kept.refl _).alloc _)).app1 hown' hgrow hloc); clear hown' hgrow hloc) | (at_builtin; refine wpList_append_own_at _ rfl _ _ 25 rfl (w.heap.size + 2) 3 iI (.int .i64 0) 1 8 Try.underlying25 II.out.1 II.out.2.1 II.out.2.2.1 II.out.2.2.2 rfl (by decide) _ _ _ rfl (Hw4.out.rows.o2.alloc _) ⟨w4.heap.size, 0, none⟩ 1 1 [.int .i64 y] rfl rfl (cell_one_new _ _ _) (by simp [Value.oneCell']) (by unfold maxLen; omega) (by omega) (by have := Hw4.out.sz; simp; omega) ?_; intro v' w5 hown' hgrow _ hloc; obtain ⟨gw5, pw5, rfl⟩ := ownsRow_succ hown'; have Hw5 := Lib.hid ((Hw4.out.kept ((Kept.refl _).alloc _)).app2 hown' hgrow hloc); clear hown' hgrow hloc) | (at_builtin; refine wpList_append_own_at _ rfl _ _ 26 rfl (w.heap.size + 2) 4 iB (.bool false) 1 1 Try.underlying26 IB.out.1 IB.out.2.1 IB.out.2.2.1 IB.out.2.2.2 rfl (by decide) _ _ _ rfl (Hw5.out.rows.o3.alloc _) ⟨w5.heap.size, 0, none⟩ 1 1 [.bool false] rfl rfl (cell_one_new _ _ _) (by simp [Value.oneCell']) (by unfold maxLen; omega) (by omega) (by have := Hw5.out.sz; simp; omega) ?_; intro v' w6 hown' hgrow _ hloc; obtain ⟨gw6, pw6, rfl⟩ := ownsRow_succ hown'; have Hw6 := Lib.hid ((Hw5.out.kept ((Kept.refl _).alloc _)).app3 hown' hgrow hloc); clear hown' hgrow hloc))
                have HZ := Lib.hid (Mid.grew (e := ⟨k, y, false⟩) Hw6.out hs.out.1 HI.out)
                go_loopw [18] (fun i wr' => ∃ m : Nat, m ≤ (n + 1) ∧ i = .int .i64 m ∧ Hid ((n + 1) = (H ++ [(⟨k, y, false⟩ : Ent)]).length ∧ Once w (takeL L (z2 j)) (H ++ [(⟨k, y, false⟩ : Ent)]) (.slice (some ⟨gw4, 0, none⟩) (n + 1) pw4) (.slice (some ⟨gw5, 0, none⟩) (n + 1) pw5) (.slice (some ⟨gw6, 0, none⟩) (n + 1) pw6) wr')) (fun i _ => (n + 1) - (intOf i).toNat)
                case atStart => exact ⟨0, by omega, rfl, HZ⟩
                case round =>
                  obtain ⟨m, hm, rfl, hz⟩ := hrel
                  clear HZ
                  by_cases hmn : m < (n + 1)
                  · obtain ⟨f, hf⟩ : ∃ f, (H ++ [(⟨k, y, false⟩ : Ent)])[m]? = some f := ⟨_, List.getElem?_eq_getElem (by have := hz.out.1; omega)⟩
                    obtain ⟨p8, p9, p10, e1, e2, e3⟩ := hz.out.2.cells hz.out.1 (by omega)
                    injection e1 with e1; injection e1 with e1; subst e1
                    injection e2 with e2; injection e2 with e2; subst e2
                    injection e3 with e3; injection e3 with e3; subst e3
                    have f8 := hz.out.2.mid.at8 hz.out.1 hf
                    have f9 := hz.out.2.mid.at9 hz.out.1 hf
                    have f10 := (hz.out.2.mid.at10 hz.out.1 hf).1
                    have HV := Lib.hid (hz.out.2.inv.valid hf)
                    have FB := Lib.hid (And.intro f8 (And.intro f9 f10))
                    have y0 : (0 : Int) ≤ m := by omega
                    have y1 : (m : Int) < (n + 1) := by omega
                    clear hf
                    go_wp2_with fail
                    go_region_held3 (fun w' => w'.cell? ⟨gw4, m, none⟩ = some (.int .i64 (f.id : Int)) ∧ w'.cell? ⟨gw5, m, none⟩ = some (.int .i64 f.ep) ∧ w'.cell? ⟨gw6, m, none⟩ = some (.bool f.dd))
                      (exact FB.out)
                      (first
                       | (go_at_call 11; refine (valid_c _ (w.heap.size + 1) w.heap.size (takeL L (z2 j)) _ _ ?_).mono ?_; (first | exact hz.out.2.t | exact (hz.out.2.kept ((Kept.refl _).drew)).t); rw [HV.out]; rintro e w' ⟨rfl, rfl⟩))
                    go_wp2_with fail
                    go_roundw
                    case rel => exact ⟨m + 1, by omega, by go_num, hz.out.1, hz.out.2.kept (Kept.refl _).drew⟩
                    case measure => simp [intOf]; omega
                  · go_wp2_with fail
                    go_roundw
                    case rel => exact ⟨j + 1, (n + 1), _, _, _, _, _, _, _, _, by omega, by omega, by go_num, rfl, rfl, rfl, hz⟩
                    case measure => simp [intOf]; omega
    · clear R0 R1 R2
      by_cases q0 : j < l0 <;> by_cases q1 : j < l1 <;> by_cases q2 : j < l2 <;> by_cases q4 : j < 100
      all_goals
        first
        | (exfalso; omega)
        | (clear hlt
           go_wp2_with fail
           refine (awake_c _).mono ?_
           rintro e w7 ⟨rfl, hk7⟩
           have hb7 := Lib.hid (hs.out.2.kept hk7).bel
           clear hk7
           go_wp2_with fail
           go_ret
           exact ⟨rfl, hb7.out⟩)
end Go.Proofs.Ytnmkejdepmijeaa.C

/- SnapDiff's walk where some frames differ. -/
import Derived.Test.YtcjadneamacilaaN
import Derived.Deep.RegionLaw
import Derived.Deep.CutBlock
namespace Go.Proofs.Ytcjadneamacilaa.C
open Go.RowKit Go.Shelf

set_option maxRecDepth 100000 in
set_option maxHeartbeats 8000000 in
theorem Diff_pos (p q : Pl) (s t : Sn) (w : World) (hp : Snp w p s) (hq : Snp w q t) (h1 : smallP s) (h0 : pairE s t = 0) (hm0 : ¬ (dl s t s.nw).length = 0) :
    Calls Try.prog 4 #[.agg #[Value.int .i64 s.fr, .int .i64 s.up, .slice p.aw s.nw p.cw, .slice p.at' s.nt p.ct, .slice p.ac s.nc p.cc], .agg #[Value.int .i64 t.fr, .int .i64 t.up, .slice q.aw t.nw q.cw, .slice q.at' t.nt q.ct, .slice q.ac t.nc q.cc]] w fun e w' => e = .returned (.bool true) ∧ Kept w w' := by
  have K2 : Hid (Kept w ((w.alloc (.cells #[Value.int .i64 s.fr, .int .i64 s.up, .slice p.aw s.nw p.cw, .slice p.at' s.nt p.ct, .slice p.ac s.nc p.cc] 56)).alloc (.cells #[Value.int .i64 t.fr, .int .i64 t.up, .slice q.aw t.nw q.cw, .slice q.at' t.nt q.ct, .slice q.ac t.nc q.cc] 56))) := ((Kept.refl w).alloc _).alloc _
  have HT := Lib.hid (two_new w p q s t)
  have hsm1 := small_c ((w.alloc (.cells #[Value.int .i64 s.fr, .int .i64 s.up, .slice p.aw s.nw p.cw, .slice p.at' s.nt p.ct, .slice p.ac s.nc p.cc] 56)).alloc (.cells #[Value.int .i64 t.fr, .int .i64 t.up, .slice q.aw t.nw q.cw, .slice q.at' t.nt q.ct, .slice q.ac t.nc q.cc] 56)) p s (hp.kept K2.out)
  rw [decide_eq_true h1] at hsm1
  have HS1 := Lib.hid hsm1
  clear hsm1 h1
  have hdl : diffL s t = dl s t s.nw := if_pos h0
  have HL := Lib.hid hdl
  have HP := Lib.hid h0
  obtain ⟨hR1, hR2, e1, e2⟩ := pair0 h0
  have hnz : 0 < s.nw := by have := dl_len s t s.nw; omega
  obtain ⟨r0, r1, r2, r3, r4, r5⟩ := hR1.1
  obtain ⟨y0, y1, y2, y3, y4, y5⟩ := hR2.1
  obtain ⟨aw, cw, A, K, at', ct, ac, cc⟩ := p
  obtain ⟨aw', cw', A', K', at'', ct', ac', cc'⟩ := q
  obtain ⟨b1, o1, ea, -⟩ := hp.wr (by omega)
  obtain ⟨b2, o2, eb, -⟩ := hq.wr (by omega)
  obtain ⟨b3, o3, ec, -⟩ := hp.ts.1.2 (by omega)
  obtain ⟨b4, o4, ed, -⟩ := hq.ts.1.2 (by omega)
  obtain ⟨b5, o5, ee, -⟩ := hp.cs.1.2 (by omega)
  obtain ⟨b6, o6, ef, -⟩ := hq.cs.1.2 (by omega)
  dsimp only at ea eb ec ed ee ef K2 HT HS1 ⊢
  subst ea eb ec ed ee ef
  have HA := Lib.hid hp
  have HB := Lib.hid hq
  have n1 : s.nt = s.nw := by omega
  have n2 : s.nc = s.nw := by omega
  have n3 : t.nw = s.nw := by omega
  have n4 : t.nt = s.nw := by omega
  have n5 : t.nc = s.nw := by omega
  have n6 : s.nw ≤ 64 := by omega
  have hmle := dl_len s t s.nw
  obtain ⟨m, hm⟩ : ∃ m, (dl s t s.nw).length = m := ⟨_, rfl⟩
  have HM := Lib.hid hm
  have HNs := Lib.hid (And.intro n1 (And.intro n2 (And.intro n3 (And.intro n4 n5))))
  have hmpos : 0 < m := by omega
  have hm64 : m ≤ 64 := by omega
  clear hp hq h0 hdl hm0 hm hR1 hR2 e1 e2 r3 r4 r5 y3 y4 y5 n1 n2 n3 n4 n5 hmle
  go_enter Try.func4, Try.ntmps4
  go_wp2_with fail
  refine HS1.out.mono ?_
  rintro e w1 ⟨rfl, hk1⟩
  have K3 := Lib.hid hk1
  clear hk1
  generalize ((w.alloc (.cells #[Value.int .i64 s.fr, .int .i64 s.up, .slice (some ⟨b1, o1, none⟩) s.nw cw, .slice (some ⟨b3, o3, none⟩) s.nt ct, .slice (some ⟨b5, o5, none⟩) s.nc cc] 56)).alloc (.cells #[Value.int .i64 t.fr, .int .i64 t.up, .slice (some ⟨b2, o2, none⟩) t.nw cw', .slice (some ⟨b4, o4, none⟩) t.nt ct', .slice (some ⟨b6, o6, none⟩) t.nc cc'] 56)) = W2 at K2 HT HS1 K3
  have a0 := ((HT.out.kept K3.out)).a0
  have a1 := ((HT.out.kept K3.out)).a1
  have a2 := ((HT.out.kept K3.out)).a2
  have a3 := ((HT.out.kept K3.out)).a3
  have a4 := ((HT.out.kept K3.out)).a4
  have c0 := ((HT.out.kept K3.out)).c0
  have c1 := ((HT.out.kept K3.out)).c1
  have c2 := ((HT.out.kept K3.out)).c2
  have c3 := ((HT.out.kept K3.out)).c3
  have c4 := ((HT.out.kept K3.out)).c4
  go_wp2_with fail
  refine (small_c _ _ t (HB.out.kept (K2.out.trans K3.out))).mono ?_
  by_cases h2 : smallP t

  · rw [decide_eq_true h2]
    rintro e w4 ⟨rfl, hk⟩
    have K4 := Lib.hid (K3.out.trans hk)
    clear hk h2
    clear a0 a1 a2 a3 a4 c0 c1 c2 c3 c4
    go_upto_region 3 with fail
    go_cut [5, 6] from 11 to 57 (fun v e wx => ∃ (a5 : Option Addr) (n5 : Nat), v = .slice a5 m n5 ∧ e = .int .i64 0 ∧ Hid (RowI .i64 wx a5 m (fun i => (dl s t s.nw).getD i 0) ∧ Kept W2 wx))
    case first =>
      have a0 := ((HT.out.kept K4.out)).a0
      have a1 := ((HT.out.kept K4.out)).a1
      have a2 := ((HT.out.kept K4.out)).a2
      have a3 := ((HT.out.kept K4.out)).a3
      have a4 := ((HT.out.kept K4.out)).a4
      have c0 := ((HT.out.kept K4.out)).c0
      have c1 := ((HT.out.kept K4.out)).c1
      have c2 := ((HT.out.kept K4.out)).c2
      have c3 := ((HT.out.kept K4.out)).c3
      have c4 := ((HT.out.kept K4.out)).c4
      go_wp2_with fail
      refine (diff_c _ _ _ s t (HA.out.kept (K2.out.trans K4.out)) (HB.out.kept (K2.out.trans K4.out))).mono ?_
      rw [HL.out, HP.out]
      rintro e w5 ⟨v, rfl, ⟨a5, n5, rfl, hrow⟩, hk⟩
      rw [HM.out] at hrow ⊢
      have K5 : Hid (RowI .i64 w5 a5 m (fun i => (dl s t s.nw).getD i 0) ∧ Kept W2 w5) := ⟨hrow, K4.out.trans hk⟩
      clear hrow hk
      go_wp2_with fail
      go_meet
      case rel => exact ⟨_, _, rfl, rfl, K5.out⟩
    case rest =>
    obtain ⟨a5, n5, rfl, rfl, HH5⟩ := hcut
    obtain ⟨g0, go, rfl, -⟩ := HH5.out.1.2 hmpos
    have HROW := Lib.hid HH5.out.1
    have K5 := Lib.hid HH5.out.2
    clear HH5 HS1 K3 K4
    go_wp2_with fail
    go_loopw [7] (fun i wr => ∃ k : Nat, k ≤ m ∧ i = .int .i64 k ∧ Hid (Kept wc wr)) (fun i _ => m - (intOf i).toNat)
    case atStart => exact ⟨0, by omega, rfl, Kept.refl _⟩
    case round =>
      obtain ⟨k, hk, rfl, KR⟩ := hrel
      by_cases hlt : k < m
      · obtain ⟨j, hj, hap, hX⟩ := dl_at s t s.nw k (by rw [HM.out]; exact hlt)
        have cx := KR.out.cell (HROW.out.cellI rfl k hlt)
        try dsimp only at cx
        rw [hX] at cx
        have i1 : (k : Int) < m := by omega
        have ij : (j : Int) < 64 := by omega
        have a0 := (HT.out.kept (K5.out.trans KR.out)).a0
        have g8 : IntKind.i64.wrap (j : Int) = j := by rw [IntKind.wrap_i64]; omega
        have g9 : (0 : Int) ≤ (j : Int) := by omega
        have g10 : s.fr + (j : Int) - s.fr = j := by omega
        go_upto_region 9 with fail
        go_quiet (fail)
        go_upto_region 10 with fail
        have K6 : Hid (Kept wc (wr.drewN nq)) := KR.out.drewN nq
        generalize wr.drewN nq = w6 at K6 ⊢
        have HQ : Hid (∀ W, Kept wc W → W.cell? ⟨w.heap.size, 0, none⟩ = some (.int .i64 s.fr) ∧ W.cell? ⟨w.heap.size, 1, none⟩ = some (.int .i64 s.up) ∧ W.cell? ⟨w.heap.size, 2, none⟩ = some (.slice (some ⟨b1, o1, none⟩) s.nw cw) ∧ W.cell? ⟨w.heap.size, 3, none⟩ = some (.slice (some ⟨b3, o3, none⟩) s.nt ct) ∧ W.cell? ⟨w.heap.size, 4, none⟩ = some (.slice (some ⟨b5, o5, none⟩) s.nc cc) ∧ W.cell? ⟨w.heap.size + 1, 0, none⟩ = some (.int .i64 t.fr) ∧ W.cell? ⟨w.heap.size + 1, 1, none⟩ = some (.int .i64 t.up) ∧ W.cell? ⟨w.heap.size + 1, 2, none⟩ = some (.slice (some ⟨b2, o2, none⟩) t.nw cw') ∧ W.cell? ⟨w.heap.size + 1, 3, none⟩ = some (.slice (some ⟨b4, o4, none⟩) t.nt ct') ∧ W.cell? ⟨w.heap.size + 1, 4, none⟩ = some (.slice (some ⟨b6, o6, none⟩) t.nc cc') ∧ W.cell? ⟨g0, go + k, none⟩ = some (.int .i64 (s.fr + j))) := fun W hW =>
          ⟨hW.cell (HT.out.kept K5.out).a0, hW.cell (HT.out.kept K5.out).a1, hW.cell (HT.out.kept K5.out).a2, hW.cell (HT.out.kept K5.out).a3, hW.cell (HT.out.kept K5.out).a4, hW.cell (HT.out.kept K5.out).c0, hW.cell (HT.out.kept K5.out).c1, hW.cell (HT.out.kept K5.out).c2, hW.cell (HT.out.kept K5.out).c3, hW.cell (HT.out.kept K5.out).c4, by have h := hW.cell (HROW.out.cellI rfl k hlt); rw [hX] at h; exact h⟩
        have HW := Lib.hid (wordsE_at s t HP.out j hj)
        have HAP := Lib.hid hap
        have HX := Lib.hid hX
        clear hap hX cx a0
        go_region_held3 (fun w' => w'.cell? ⟨w.heap.size, 0, none⟩ = some (.int .i64 s.fr) ∧ w'.cell? ⟨w.heap.size, 1, none⟩ = some (.int .i64 s.up) ∧ w'.cell? ⟨w.heap.size, 2, none⟩ = some (.slice (some ⟨b1, o1, none⟩) s.nw cw) ∧ w'.cell? ⟨w.heap.size, 3, none⟩ = some (.slice (some ⟨b3, o3, none⟩) s.nt ct) ∧ w'.cell? ⟨w.heap.size, 4, none⟩ = some (.slice (some ⟨b5, o5, none⟩) s.nc cc) ∧ w'.cell? ⟨w.heap.size + 1, 0, none⟩ = some (.int .i64 t.fr) ∧ w'.cell? ⟨w.heap.size + 1, 1, none⟩ = some (.int .i64 t.up) ∧ w'.cell? ⟨w.heap.size + 1, 2, none⟩ = some (.slice (some ⟨b2, o2, none⟩) t.nw cw') ∧ w'.cell? ⟨w.heap.size + 1, 3, none⟩ = some (.slice (some ⟨b4, o4, none⟩) t.nt ct') ∧ w'.cell? ⟨w.heap.size + 1, 4, none⟩ = some (.slice (some ⟨b6, o6, none⟩) t.nc cc') ∧ w'.cell? ⟨g0, go + k, none⟩ = some (.int .i64 (s.fr + j)))
          (first | exact HQ.out _ K8.out | exact HQ.out _ K6.out | exact HQ.out _ K6.out.drew)
          (first
            | (go_at_call 24; refine (swords_c _ _ _ s t _ (HA.out.kept (K2.out.trans (K5.out.trans (by first | exact K6.out | exact K6.out.drew)))) (HB.out.kept (K2.out.trans (K5.out.trans (by first | exact K6.out | exact K6.out.drew))))).mono ?_; rw [HW.out.1, HW.out.2]; rintro e w8 ⟨v8, rfl, ⟨a8, n8, rfl, -⟩, hk8⟩; have K8 : Hid (Kept wc w8) := (by first | exact K6.out.trans hk8 | exact K6.out.drew.trans hk8); clear hk8))
        obtain ⟨a0, a1, a2, a3, a4, c0, c1, c2, c3, c4, cx⟩ := HQ.out _ K8.out
        have kk := K2.out.trans (K5.out.trans K8.out)
        have f1 := kk.cell (HA.out.cellT rfl j (by have := HNs.out; omega))
        have f2 := kk.cell (HB.out.cellT rfl j (by have := HNs.out; omega))
        have f3 := kk.cell (HA.out.cellC rfl j (by have := HNs.out; omega))
        have f4 := kk.cell (HB.out.cellC rfl j (by have := HNs.out; omega))
        have l1 : ¬ (s.nt : Int) ≤ j := by have := HNs.out; omega
        have l2 : ¬ (t.nt : Int) ≤ j := by have := HNs.out; omega
        have l3 : ¬ (s.nc : Int) ≤ j := by have := HNs.out; omega
        have l4 : ¬ (t.nc : Int) ≤ j := by have := HNs.out; omega
        have l5 : (j : Int) < s.nt := by omega
        have l6 : (j : Int) < t.nt := by omega
        have l7 : (j : Int) < s.nc := by omega
        have l8 : (j : Int) < t.nc := by omega
        have dj : decide ((j : Int) < 0) = false := decide_eq_false (by omega)
        have d1 : decide ((s.nt : Int) ≤ j) = false := decide_eq_false l1
        have d2 : decide ((t.nt : Int) ≤ j) = false := decide_eq_false l2
        have d3 : decide ((s.nc : Int) ≤ j) = false := decide_eq_false l3
        have d4 : decide ((t.nc : Int) ≤ j) = false := decide_eq_false l4
        clear kk
        obtain ⟨dn, hdn⟩ : ∃ dn, (difAt s t j).length = dn := ⟨_, rfl⟩
        rw [hdn]
        have HDN := Lib.hid hdn
        clear hdn
        go_upto_region 11 with fail
        go_cut [161] from 58 to 161 (fun c wx => c = .bool false ∧ Hid (Kept wc wx))
        case first =>
          simp only [List.append_eq, List.cons_append, List.nil_append]
          rename_i aA Qx Kx aB hH Ky aC J0 K0 aD aE
          clear aA aB hH aC
          have HaD := Lib.hid aD
          have HaE := Lib.hid aE
          clear aD aE hnz hmpos r0 r1 r2 y0 y1 y2 n6 g10
          rcases Nat.eq_zero_or_pos k with hk0 | hk0
          · have ik : ¬ (0 : Int) < k := by omega
            have bk : decide ((0 : Int) < k) = false := decide_eq_false ik
            have bk2 : decide (0 < k) = false := decide_eq_false (by omega)
            clear hk0
            rcases Nat.eq_zero_or_pos dn with hd0 | hd0
            · have b0 : ((dn : Int) == 0) = true := by rw [hd0]; rfl
              have hem : (difAt s t j).isEmpty = true := by rw [List.isEmpty_iff]; exact List.eq_nil_of_length_eq_zero (HDN.out.trans hd0)
              cases hTT : (s.T j == t.T j)
              · clear hem hd0
                go_big_quiet (fail)
                have aD := HaD.out
                have aE := HaE.out
                go_wp2_with fail
                go_meet
                case rel => exact ⟨rfl, K8.out.drewN _⟩
              · cases hCC : (s.C j == t.C j)
                · clear hem hd0
                  go_big_quiet (fail)
                  have aD := HaD.out
                  have aE := HaE.out
                  go_wp2_with fail
                  go_meet
                  case rel => exact ⟨rfl, K8.out.drewN _⟩
                · exfalso
                  have x1 := eq_of_beq hTT
                  have x2 := eq_of_beq hCC
                  have hap := HAP.out
                  unfold apartAt at hap
                  rw [hem, x1, x2] at hap
                  simp at hap
            · have b0 : ((dn : Int) == 0) = false := by simp; omega
              go_big_quiet (fail)
              have aD := HaD.out
              have aE := HaE.out
              go_wp2_with fail
              go_meet
              case rel => exact ⟨rfl, K8.out.drewN _⟩
          · have ik : (0 : Int) < k := by omega
            have bk : decide ((0 : Int) < k) = true := decide_eq_true ik
            have bk2 : decide (0 < k) = true := decide_eq_true hk0
            obtain ⟨k', hk'⟩ : ∃ k' : Nat, k' = k - 1 := ⟨_, rfl⟩
            have p1 : (k : Int) - 1 = k' := by omega
            have p2 : IntKind.i64.wrap (k' : Int) = k' := by rw [IntKind.wrap_i64]; omega
            have p3 : (0 : Int) ≤ (k' : Int) := by omega
            have p4 : (k' : Int) < m := by omega
            have cp := K8.out.cell (HROW.out.cellI rfl k' (by omega))
            have hlt2 := dl_lt s t s.nw k hk0 (by rw [HM.out]; exact hlt)
            rw [HX.out, show k - 1 = k' from by omega] at hlt2
            try dsimp only at cp
            generalize (dl s t s.nw).getD k' 0 = xp at cp hlt2
            have q1 : ¬ s.fr + (j : Int) ≤ xp := by omega
            have q2 : decide (s.fr + (j : Int) ≤ xp) = false := decide_eq_false q1
            clear hk0 hk' hlt2
            rcases Nat.eq_zero_or_pos dn with hd0 | hd0
            · have b0 : ((dn : Int) == 0) = true := by rw [hd0]; rfl
              have hem : (difAt s t j).isEmpty = true := by rw [List.isEmpty_iff]; exact List.eq_nil_of_length_eq_zero (HDN.out.trans hd0)
              cases hTT : (s.T j == t.T j)
              · clear hem hd0
                go_big_quiet (fail)
                have aD := HaD.out
                have aE := HaE.out
                go_wp2_with fail
                go_meet
                case rel => exact ⟨rfl, K8.out.drewN _⟩
              · cases hCC : (s.C j == t.C j)
                · clear hem hd0
                  go_big_quiet (fail)
                  have aD := HaD.out
                  have aE := HaE.out
                  go_wp2_with fail
                  go_meet
                  case rel => exact ⟨rfl, K8.out.drewN _⟩
                · exfalso
                  have x1 := eq_of_beq hTT
                  have x2 := eq_of_beq hCC
                  have hap := HAP.out
                  unfold apartAt at hap
                  rw [hem, x1, x2] at hap
                  simp at hap
            · have b0 : ((dn : Int) == 0) = false := by simp; omega
              go_big_quiet (fail)
              have aD := HaD.out
              have aE := HaE.out
              go_wp2_with fail
              go_meet
              case rel => exact ⟨rfl, K8.out.drewN _⟩
        case rest =>
        obtain ⟨rfl, KX⟩ := hcut
        clear a0 a1 a2 a3 a4 c0 c1 c2 c3 c4 cx f1 f2 f3 f4
        go_wp2_with fail
        go_roundw
        case rel => first | exact ⟨k + 1, by omega, by go_num, KX.out⟩ | ((repeat apply Exists.intro); exact ⟨⟨k + 1, by omega, by go_num, KX.out⟩, rfl⟩)
        case measure => simp [intOf]; omega
      · obtain rfl : m = k := by omega
        have KW := Lib.hid (K5.out.trans KR.out)
        have a0 := ((HT.out.kept KW.out)).a0
        have a1 := ((HT.out.kept KW.out)).a1
        have a2 := ((HT.out.kept KW.out)).a2
        have a3 := ((HT.out.kept KW.out)).a3
        have a4 := ((HT.out.kept KW.out)).a4
        have c0 := ((HT.out.kept KW.out)).c0
        have c1 := ((HT.out.kept KW.out)).c1
        have c2 := ((HT.out.kept KW.out)).c2
        have c3 := ((HT.out.kept KW.out)).c3
        have c4 := ((HT.out.kept KW.out)).c4
        have hsame := same_c _ _ _ s t (HA.out.kept (K2.out.trans KW.out)) (HB.out.kept (K2.out.trans KW.out))
        by_cases hSm : Same s t
        · rw [decide_eq_true hSm] at hsame
          have bl : ((m : Int) == 0) = true := by rw [← HM.out, (dl_nil s t HP.out).2 hSm]; rfl
          have HS := Lib.hid hsame
          clear hSm hsame
          go_wp2_with (first | (go_at_call 25; refine HS.out.mono ?_; rintro e w5 ⟨rfl, hk5⟩) | (go_at_call 20; refine (awake_c _).mono ?_; rintro e w9 ⟨rfl, hk9⟩))
          go_ret
          exact ⟨rfl, K2.out.trans (KW.out.trans (hk5.trans hk9))⟩
        · rw [decide_eq_false hSm] at hsame
          have bl : ((m : Int) == 0) = false := by
            have : m ≠ 0 := fun e => hSm ((dl_nil s t HP.out).1 (List.eq_nil_of_length_eq_zero (HM.out.trans e)))
            simp; omega
          have HS := Lib.hid hsame
          clear hSm hsame
          go_wp2_with (first | (go_at_call 25; refine HS.out.mono ?_; rintro e w5 ⟨rfl, hk5⟩) | (go_at_call 20; refine (awake_c _).mono ?_; rintro e w9 ⟨rfl, hk9⟩))
          go_ret
          exact ⟨rfl, K2.out.trans (KW.out.trans (hk5.trans hk9))⟩

  · rw [decide_eq_false h2]
    rintro e w4 ⟨rfl, hk⟩
    have K4 := Lib.hid (K3.out.trans hk)
    clear hk h2
    go_wp2_with (go_at_call 20; refine (awake_c _).mono ?_; rintro e w9 ⟨rfl, hk9⟩)
    go_ret
    exact ⟨rfl, K2.out.trans (K4.out.trans hk9)⟩

end Go.Proofs.Ytcjadneamacilaa.C

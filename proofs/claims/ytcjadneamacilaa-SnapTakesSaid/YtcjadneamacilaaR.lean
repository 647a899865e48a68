/- snap.Diff. -/
import Derived.Test.YtcjadneamacilaaQ
import Derived.Deep.RegionLaw
import Derived.Test.YtcjadneamacilaaK
namespace Go.Proofs.Ytcjadneamacilaa.C
open Go.RowKit Go.Shelf

def apartAt (s t : Sn) (i : Nat) : Bool := (s.T i != t.T i) || (s.C i != t.C i) || !(difAt s t i).isEmpty
def dl (s t : Sn) (k : Nat) : List Int := ((List.range k).filter (apartAt s t)).map fun i : Nat => s.fr + (i : Int)
def diffL (s t : Sn) : List Int := if pairE s t = 0 then dl s t s.nw else []
theorem dl_hit (s t : Sn) (k : Nat) (h : apartAt s t k = true) : dl s t (k + 1) = dl s t k ++ [s.fr + (k : Int)] := by
  simp [dl, List.range_succ, List.filter_append, h]
theorem dl_miss (s t : Sn) (k : Nat) (h : apartAt s t k = false) : dl s t (k + 1) = dl s t k := by
  simp [dl, List.range_succ, List.filter_append, h]
theorem dl_len (s t : Sn) (k : Nat) : (dl s t k).length ≤ k := by
  unfold dl
  rw [List.length_map]
  exact Nat.le_trans (List.length_filter_le _ _) (by simp)

set_option maxRecDepth 100000 in
set_option maxHeartbeats 4000000 in
theorem diff_c (w : World) (p q : Pl) (s t : Sn) (hp : Snp w p s) (hq : Snp w q t) :
    Calls Try.prog 22 #[.agg #[Value.int .i64 s.fr, .int .i64 s.up, .slice p.aw s.nw p.cw, .slice p.at' s.nt p.ct, .slice p.ac s.nc p.cc], .agg #[Value.int .i64 t.fr, .int .i64 t.up, .slice q.aw t.nw q.cw, .slice q.at' t.nt q.ct, .slice q.ac t.nc q.cc]] w fun e w' => ∃ v, e = .returned (.tuple #[v, .int .i64 (pairE s t)]) ∧ Lst w' v (diffL s t) ∧ Kept w w' := by
  have infoE : (Try.prog.info? 3).map (fun i => (i.zero, i.size, i.bytes)) = some (some (.int .i64 0), 1, 8) := by kernel_rfl
  obtain ⟨i3, hi, hz0, hz1, hz2⟩ := info_parts infoE
  clear infoE
  by_cases h0 : pairE s t = 0
  · obtain ⟨hR1, hR2, e1, e2⟩ := pair0 h0
    obtain ⟨r0, r1, r2, r3, r4, r5⟩ := hR1.1
    obtain ⟨x0, x1, x2, x3, x4, x5⟩ := hR2.1
    have hL : diffL s t = dl s t s.nw := if_pos h0
    rw [h0, hL]
    have HP := Lib.hid h0
    have K2 : Hid (Kept w ((w.alloc (.cells #[Value.int .i64 s.fr, .int .i64 s.up, .slice p.aw s.nw p.cw, .slice p.at' s.nt p.ct, .slice p.ac s.nc p.cc] 56)).alloc (.cells #[Value.int .i64 t.fr, .int .i64 t.up, .slice q.aw t.nw q.cw, .slice q.at' t.nt q.ct, .slice q.ac t.nc q.cc] 56))) := ((Kept.refl w).alloc _).alloc _
    have HT := Lib.hid (two_new w p q s t)
    rcases Nat.eq_zero_or_pos s.nw with hz | hz
    · have HA := Lib.hid hp
      have HB := Lib.hid hq
      have HZ : Hid (dl s t s.nw = []) := by show _ = _; rw [hz]; rfl
      have i0 : ¬ (0 : Int) < s.nw := by omega
      clear hp hq h0 hL hR1 hR2 e1 e2 r3 r4 r5 x3 x4 x5 hz
      go_enter Try.func22, Try.ntmps22
      go_wp2_with fail
      refine (pair_c _ p q s t (HA.out.kept K2.out) (HB.out.kept K2.out)).mono ?_
      rw [HP.out]
      rintro e w1 ⟨rfl, hk1⟩
      have K1 := Lib.hid (K2.out.trans hk1)
      have a2 := (HT.out.kept hk1).a2
      clear hk1
      go_wp2_with fail
      refine wp_loop_rounds 1 ?_
      rw [rounds_succ]
      go_wp2_with fail
      go_ret2
      exact ⟨_, rfl, by rw [HZ.out]; exact Lst.nil _, K1.out⟩
    · obtain ⟨aw, cw, A, K, at', ct, ac, cc⟩ := p
      obtain ⟨aw', cw', A', K', at'', ct', ac', cc'⟩ := q
      obtain ⟨b1, o1, ea, -⟩ := hp.wr (by omega)
      obtain ⟨b2, o2, eb, -⟩ := hq.wr (by omega)
      obtain ⟨b3, o3, ec, -⟩ := hp.ts.1.2 (by omega)
      obtain ⟨b4, o4, ed, -⟩ := hq.ts.1.2 (by omega)
      obtain ⟨b5, o5, ee, -⟩ := hp.cs.1.2 (by omega)
      obtain ⟨b6, o6, ef, -⟩ := hq.cs.1.2 (by omega)
      dsimp only at ea eb ec ed ee ef K2 HT ⊢
      subst ea eb ec ed ee ef
      have HA := Lib.hid hp
      have HB := Lib.hid hq
      have HR1 := Lib.hid hR1
      have HR2 := Lib.hid hR2
      have n1 : s.nt = s.nw := by omega
      have n2 : s.nc = s.nw := by omega
      have n3 : t.nw = s.nw := by omega
      have n4 : t.nt = s.nw := by omega
      have n5 : t.nc = s.nw := by omega
      have n6 : s.nw ≤ 64 := by omega
      have HN := Lib.hid (And.intro n1 (And.intro n2 (And.intro n3 (And.intro n4 n5))))
      clear hp hq h0 hL hR1 hR2 e1 e2 r3 r4 r5 x3 x4 x5 n1 n2 n3 n4 n5
      go_enter Try.func22, Try.ntmps22
      go_wp2_with fail
      refine (pair_c _ _ _ s t (HA.out.kept K2.out) (HB.out.kept K2.out)).mono ?_
      rw [HP.out]
      rintro e w1 ⟨rfl, hk1⟩
      have K1 := Lib.hid hk1
      have a2 := (HT.out.kept hk1).a2
      clear hk1
      generalize ((w.alloc (.cells #[Value.int .i64 s.fr, .int .i64 s.up, .slice (some ⟨b1, o1, none⟩) s.nw cw, .slice (some ⟨b3, o3, none⟩) s.nt ct, .slice (some ⟨b5, o5, none⟩) s.nc cc] 56)).alloc (.cells #[Value.int .i64 t.fr, .int .i64 t.up, .slice (some ⟨b2, o2, none⟩) t.nw cw', .slice (some ⟨b4, o4, none⟩) t.nt ct', .slice (some ⟨b6, o6, none⟩) t.nc cc'] 56)) = W2 at K2 HT K1
      go_wp2_with fail
      go_loopw [7, 18] (fun v i wr => ∃ k : Nat, k ≤ s.nw ∧ i = .int .i64 k ∧ Hid (Kept W2 wr ∧ wr.ownsRow W2.heap.size 3 1 v (dl s t k).length ((dl s t k).map (Value.int .i64)))) (fun _ i _ => s.nw - (intOf i).toNat)
      case atStart => exact ⟨0, by omega, rfl, K1.out, World.ownsRow_nil _ _ _ _⟩
      case round =>
        obtain ⟨k, hk, rfl, hr⟩ := hrel
        by_cases hlt : k < s.nw
        · have i1 : (k : Int) < s.nw := by omega
          have i2 : (k : Int) < s.nt := by have := HN.out; omega
          have i3' : (k : Int) < s.nc := by have := HN.out; omega
          have i4 : (k : Int) < t.nw := by have := HN.out; omega
          have i5 : (k : Int) < t.nt := by have := HN.out; omega
          have i6 : (k : Int) < t.nc := by have := HN.out; omega
          have HQ : Hid (∀ W, Kept W2 W → W.cell? ⟨w.heap.size, 2, none⟩ = some (.slice (some ⟨b1, o1, none⟩) s.nw cw) ∧ W.cell? ⟨w.heap.size, 3, none⟩ = some (.slice (some ⟨b3, o3, none⟩) s.nt ct) ∧ W.cell? ⟨w.heap.size, 4, none⟩ = some (.slice (some ⟨b5, o5, none⟩) s.nc cc) ∧
              W.cell? ⟨w.heap.size + 1, 2, none⟩ = some (.slice (some ⟨b2, o2, none⟩) t.nw cw') ∧ W.cell? ⟨w.heap.size + 1, 3, none⟩ = some (.slice (some ⟨b4, o4, none⟩) t.nt ct') ∧ W.cell? ⟨w.heap.size + 1, 4, none⟩ = some (.slice (some ⟨b6, o6, none⟩) t.nc cc') ∧
              W.cell? ⟨b1, o1 + k, none⟩ = some (.slice (A k) (s.L k) (K k)) ∧ W.cell? ⟨b2, o2 + k, none⟩ = some (.slice (A' k) (t.L k) (K' k)) ∧ W.cell? ⟨b3, o3 + k, none⟩ = some (.int .i64 (s.T k)) ∧ W.cell? ⟨b4, o4 + k, none⟩ = some (.int .i64 (t.T k)) ∧ W.cell? ⟨b5, o5 + k, none⟩ = some (.int .i64 (s.C k)) ∧ W.cell? ⟨b6, o6 + k, none⟩ = some (.int .i64 (t.C k))) := fun W hW =>
            ⟨hW.cell HT.out.a2, hW.cell HT.out.a3, hW.cell HT.out.a4, hW.cell HT.out.c2, hW.cell HT.out.c3, hW.cell HT.out.c4,
              (K2.out.trans hW).cell (HA.out.cellW rfl k hlt), (K2.out.trans hW).cell (HB.out.cellW rfl k (by have := HN.out; omega)), (K2.out.trans hW).cell (HA.out.cellT rfl k (by have := HN.out; omega)), (K2.out.trans hW).cell (HB.out.cellT rfl k (by have := HN.out; omega)), (K2.out.trans hW).cell (HA.out.cellC rfl k (by have := HN.out; omega)), (K2.out.trans hW).cell (HB.out.cellC rfl k (by have := HN.out; omega))⟩
          have q0 := (HQ.out _ hr.out.1).2.1
          by_cases hT : s.T k = t.T k
          · have bT : (s.T k != t.T k) = false := by simp [hT]
            by_cases hC : s.C k = t.C k
            · have bC : (s.C k != t.C k) = false := by simp [hC]
              have RA : Hid (∀ W, Kept W2 W → RowI .u64 W (A k) (s.L k) (s.Z k)) := fun W hW => (HA.out.rows k hlt).1.kept (K2.out.trans hW)
              have RB : Hid (∀ W, Kept W2 W → RowI .u64 W (A' k) (t.L k) (t.Z k)) := fun W hW => (HB.out.rows k (by have := HN.out; omega)).1.kept (K2.out.trans hW)
              cases hd : (!(dif (s.Z k) (t.Z k) (t.L k) (s.L k)).isEmpty)
              · have HS := Lib.hid hd
                have HH : Hid (apartAt s t k = false) := by show _ = _; unfold apartAt difAt; rw [bT, bC, hd]; rfl
                clear hd
                clear hT hC q0
                go_wp2_with fail
                go_region_held3 (fun w' => w'.cell? ⟨w.heap.size, 2, none⟩ = some (.slice (some ⟨b1, o1, none⟩) s.nw cw) ∧ w'.cell? ⟨w.heap.size, 3, none⟩ = some (.slice (some ⟨b3, o3, none⟩) s.nt ct) ∧ w'.cell? ⟨w.heap.size, 4, none⟩ = some (.slice (some ⟨b5, o5, none⟩) s.nc cc) ∧ w'.cell? ⟨w.heap.size + 1, 2, none⟩ = some (.slice (some ⟨b2, o2, none⟩) t.nw cw') ∧ w'.cell? ⟨w.heap.size + 1, 3, none⟩ = some (.slice (some ⟨b4, o4, none⟩) t.nt ct') ∧ w'.cell? ⟨w.heap.size + 1, 4, none⟩ = some (.slice (some ⟨b6, o6, none⟩) t.nc cc') ∧ w'.cell? ⟨b1, o1 + k, none⟩ = some (.slice (A k) (s.L k) (K k)) ∧ w'.cell? ⟨b2, o2 + k, none⟩ = some (.slice (A' k) (t.L k) (K' k)) ∧ w'.cell? ⟨b3, o3 + k, none⟩ = some (.int .i64 (s.T k)) ∧ w'.cell? ⟨b4, o4 + k, none⟩ = some (.int .i64 (t.T k)) ∧ w'.cell? ⟨b5, o5 + k, none⟩ = some (.int .i64 (s.C k)) ∧ w'.cell? ⟨b6, o6 + k, none⟩ = some (.int .i64 (t.C k)))
                  (first | exact HQ.out _ KX.out | exact HQ.out _ hr.out.1 | exact HQ.out _ hr.out.1.drew)
                  (first
                    | (go_at_call 66; refine (some_c _ (A k) (A' k) (s.L k) (t.L k) (K k) (K' k) (s.Z k) (t.Z k) (RA.out _ (by first | exact hr.out.1 | exact hr.out.1.drew)) (RB.out _ (by first | exact hr.out.1 | exact hr.out.1.drew))).mono ?_; rw [HS.out]; rintro e w4 ⟨rfl, hk4⟩; have KX : Hid (Kept W2 w4) := (by first | exact hr.out.1.trans hk4 | exact hr.out.1.drew.trans hk4); have OX := Lib.hid (own_kept hr.out.2 (by first | exact hk4 | exact ((Kept.refl wr).drew).trans hk4)); clear hk4))
                have H6 : Hid (Kept W2 w4 ∧ w4.ownsRow W2.heap.size 3 1 u7 (dl s t (k + 1)).length ((dl s t (k + 1)).map (Value.int .i64))) := ⟨KX.out, by rw [dl_miss s t k HH.out]; exact OX.out⟩
                clear KX OX
                go_wp2_with fail
                go_roundw
                case rel => exact ⟨k + 1, by omega, by go_num, H6.out⟩
                case measure => simp [intOf]; omega
              · have HS := Lib.hid hd
                have HH : Hid (apartAt s t k = true) := by show _ = _; unfold apartAt difAt; rw [bT, bC, hd]; rfl
                clear hd
                clear hT hC q0
                go_wp2_with fail
                go_region_held3 (fun w' => w'.cell? ⟨w.heap.size, 2, none⟩ = some (.slice (some ⟨b1, o1, none⟩) s.nw cw) ∧ w'.cell? ⟨w.heap.size, 3, none⟩ = some (.slice (some ⟨b3, o3, none⟩) s.nt ct) ∧ w'.cell? ⟨w.heap.size, 4, none⟩ = some (.slice (some ⟨b5, o5, none⟩) s.nc cc) ∧ w'.cell? ⟨w.heap.size + 1, 2, none⟩ = some (.slice (some ⟨b2, o2, none⟩) t.nw cw') ∧ w'.cell? ⟨w.heap.size + 1, 3, none⟩ = some (.slice (some ⟨b4, o4, none⟩) t.nt ct') ∧ w'.cell? ⟨w.heap.size + 1, 4, none⟩ = some (.slice (some ⟨b6, o6, none⟩) t.nc cc') ∧ w'.cell? ⟨b1, o1 + k, none⟩ = some (.slice (A k) (s.L k) (K k)) ∧ w'.cell? ⟨b2, o2 + k, none⟩ = some (.slice (A' k) (t.L k) (K' k)) ∧ w'.cell? ⟨b3, o3 + k, none⟩ = some (.int .i64 (s.T k)) ∧ w'.cell? ⟨b4, o4 + k, none⟩ = some (.int .i64 (t.T k)) ∧ w'.cell? ⟨b5, o5 + k, none⟩ = some (.int .i64 (s.C k)) ∧ w'.cell? ⟨b6, o6 + k, none⟩ = some (.int .i64 (t.C k)))
                  (first | exact HQ.out _ KX.out | exact HQ.out _ hr.out.1 | exact HQ.out _ hr.out.1.drew)
                  (first
                    | (go_at_call 66; refine (some_c _ (A k) (A' k) (s.L k) (t.L k) (K k) (K' k) (s.Z k) (t.Z k) (RA.out _ (by first | exact hr.out.1 | exact hr.out.1.drew)) (RB.out _ (by first | exact hr.out.1 | exact hr.out.1.drew))).mono ?_; rw [HS.out]; rintro e w4 ⟨rfl, hk4⟩; have KX : Hid (Kept W2 w4) := (by first | exact hr.out.1.trans hk4 | exact hr.out.1.drew.trans hk4); have OX := Lib.hid (own_kept hr.out.2 (by first | exact hk4 | exact ((Kept.refl wr).drew).trans hk4)); clear hk4))
                have fr0 := KX.out.cell HT.out.a0
                obtain ⟨w5, hw5⟩ : ∃ w5, w4 = w5 := ⟨_, rfl⟩
                subst hw5
                have dlen := dl_len s t k
                go_wp2_with (at_builtin; refine wpList_append_own_at _ rfl _ _ 22 rfl W2.heap.size 3 i3 (.int .i64 0) 1 8 Try.underlying22 hi hz0 hz1 hz2 rfl (by decide) _ _ _ rfl (OX.out.alloc _) ⟨w4.heap.size, 0, none⟩ 1 1 [.int .i64 (s.fr + k)] rfl rfl (cell_one_new _ _ _) ?c2 ?c3 ?c4 ?c5 ?_)
                case c2 => simp [Value.oneCell']
                case c3 => simp [maxLen]; omega
                case c4 => omega
                case c5 => have := KX.out.size; simp; omega
                intro v' w6 hown' hgrow _ _
                have hk6 : Kept W2 w6 := Below.grown (KX.out.alloc _) hgrow (KX.out.alloc _).size (fun j hj => (OX.out.lt j hj).1)
                have H6 : Hid (Kept W2 w6 ∧ w6.ownsRow W2.heap.size 3 1 v' (dl s t (k + 1)).length ((dl s t (k + 1)).map (Value.int .i64))) := ⟨hk6, by rw [dl_hit s t k HH.out]; simpa using hown'⟩
                clear hown' hgrow hk6
                go_wp2_with fail
                go_roundw
                case rel => exact ⟨k + 1, by omega, by go_num, H6.out⟩
                case measure => simp [intOf]; omega
            · have bC : (s.C k != t.C k) = true := by simp [hC]
              have HH : Hid (apartAt s t k = true) := by show _ = _; unfold apartAt; rw [bT, bC]; rfl
              obtain ⟨q1, q2, q3, q4, q5, q6, q7, q8, q9, q10, q11, q12⟩ := HQ.out _ hr.out.1
              clear hT hC q0
              go_wp2_with fail
              go_quiet (fail)
              have KX := Lib.hid (hr.out.1.drewN nq)
              have OX := Lib.hid (own_kept hr.out.2 ((Kept.refl wr).drewN nq))
              clear q1 q2 q3 q4 q5 q6 q7 q8 q9 q10 q11 q12
              have fr0 := KX.out.cell HT.out.a0
              generalize hWX : wr.drewN nq = w5 at KX OX fr0 ⊢
              clear hWX
              have dlen := dl_len s t k
              go_wp2_with (at_builtin; refine wpList_append_own_at _ rfl _ _ 22 rfl W2.heap.size 3 i3 (.int .i64 0) 1 8 Try.underlying22 hi hz0 hz1 hz2 rfl (by decide) _ _ _ rfl (OX.out.alloc _) ⟨w5.heap.size, 0, none⟩ 1 1 [.int .i64 (s.fr + k)] rfl rfl (cell_one_new _ _ _) ?c2 ?c3 ?c4 ?c5 ?_)
              case c2 => simp [Value.oneCell']
              case c3 => simp [maxLen]; omega
              case c4 => omega
              case c5 => have := KX.out.size; simp; omega
              intro v' w6 hown' hgrow _ _
              have hk6 : Kept W2 w6 := Below.grown (KX.out.alloc _) hgrow (KX.out.alloc _).size (fun j hj => (OX.out.lt j hj).1)
              have H6 : Hid (Kept W2 w6 ∧ w6.ownsRow W2.heap.size 3 1 v' (dl s t (k + 1)).length ((dl s t (k + 1)).map (Value.int .i64))) := ⟨hk6, by rw [dl_hit s t k HH.out]; simpa using hown'⟩
              clear hown' hgrow hk6
              go_wp2_with fail
              go_roundw
              case rel => exact ⟨k + 1, by omega, by go_num, H6.out⟩
              case measure => simp [intOf]; omega
          · have bT : (s.T k != t.T k) = true := by simp [hT]
            have HH : Hid (apartAt s t k = true) := by show _ = _; unfold apartAt; rw [bT]; rfl
            obtain ⟨q1, q2, q3, q4, q5, q6, q7, q8, q9, q10, q11, q12⟩ := HQ.out _ hr.out.1
            clear hT q0
            go_wp2_with fail
            go_quiet (fail)
            have KX := Lib.hid (hr.out.1.drewN nq)
            have OX := Lib.hid (own_kept hr.out.2 ((Kept.refl wr).drewN nq))
            clear q1 q2 q3 q4 q5 q6 q7 q8 q9 q10 q11 q12
            have fr0 := KX.out.cell HT.out.a0
            generalize hWX : wr.drewN nq = w5 at KX OX fr0 ⊢
            clear hWX
            have dlen := dl_len s t k
            go_wp2_with (at_builtin; refine wpList_append_own_at _ rfl _ _ 22 rfl W2.heap.size 3 i3 (.int .i64 0) 1 8 Try.underlying22 hi hz0 hz1 hz2 rfl (by decide) _ _ _ rfl (OX.out.alloc _) ⟨w5.heap.size, 0, none⟩ 1 1 [.int .i64 (s.fr + k)] rfl rfl (cell_one_new _ _ _) ?c2 ?c3 ?c4 ?c5 ?_)
            case c2 => simp [Value.oneCell']
            case c3 => simp [maxLen]; omega
            case c4 => omega
            case c5 => have := KX.out.size; simp; omega
            intro v' w6 hown' hgrow _ _
            have hk6 : Kept W2 w6 := Below.grown (KX.out.alloc _) hgrow (KX.out.alloc _).size (fun j hj => (OX.out.lt j hj).1)
            have H6 : Hid (Kept W2 w6 ∧ w6.ownsRow W2.heap.size 3 1 v' (dl s t (k + 1)).length ((dl s t (k + 1)).map (Value.int .i64))) := ⟨hk6, by rw [dl_hit s t k HH.out]; simpa using hown'⟩
            clear hown' hgrow hk6
            go_wp2_with fail
            go_roundw
            case rel => exact ⟨k + 1, by omega, by go_num, H6.out⟩
            case measure => simp [intOf]; omega
        · obtain rfl : k = s.nw := by omega
          have hw : ∀ x ∈ dl s t s.nw, (Lit.int .i64 x).wf = true := by
            intro x hx
            simp only [dl, List.mem_map, List.mem_filter, List.mem_range] at hx
            obtain ⟨i, ⟨hi, _⟩, rfl⟩ := hx
            exact wf_of_le (by omega) (by omega)
          have HL := Lib.hid (Lst.of hr.out.2 (by have := dl_len s t s.nw; omega) hw)
          clear hw
          go_wp2_with fail
          go_ret2
          exact ⟨_, rfl, HL.out, K2.out.trans hr.out.1⟩
  · have hL : diffL s t = [] := if_neg h0
    rw [hL]
    have bE : (pairE s t != 0) = true := by simp [h0]
    have HA := Lib.hid hp
    have HB := Lib.hid hq
    have K2 : Hid (Kept w ((w.alloc (.cells #[Value.int .i64 s.fr, .int .i64 s.up, .slice p.aw s.nw p.cw, .slice p.at' s.nt p.ct, .slice p.ac s.nc p.cc] 56)).alloc (.cells #[Value.int .i64 t.fr, .int .i64 t.up, .slice q.aw t.nw q.cw, .slice q.at' t.nt q.ct, .slice q.ac t.nc q.cc] 56))) := ((Kept.refl w).alloc _).alloc _
    clear hp hq hL h0
    generalize hpe : pairE s t = pe at bE ⊢
    have HP := Lib.hid hpe
    clear hpe
    go_enter Try.func22, Try.ntmps22
    go_wp2_with fail
    refine (pair_c _ p q s t (HA.out.kept K2.out) (HB.out.kept K2.out)).mono ?_
    rw [HP.out]
    rintro e w1 ⟨rfl, hk1⟩
    have K1 := Lib.hid (K2.out.trans hk1)
    clear hk1
    go_wp2_with fail
    go_ret2
    exact ⟨_, rfl, Lst.nil _, K1.out⟩
end Go.Proofs.Ytcjadneamacilaa.C

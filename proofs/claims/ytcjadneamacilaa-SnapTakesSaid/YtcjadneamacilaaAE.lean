/- palanquinref39: Text. -/
import Derived.Test.YtcjadneamacilaaAA
import Derived.Test.YtcjadneamacilaaAD
namespace Go.Proofs.Ytcjadneamacilaa.C
open Go.RowKit

theorem dig_x (n : Nat) (w : World) (h : n < 18446744073709551616) : Calls Try.prog 77 #[.int .u64 n] w fun e w' => e = .returned (.string (dgB n)) ∧ Kept w w' := rdig_c n w h
theorem dgB_sz (n : Nat) (h : n < 18446744073709551616) : (dgB n).size ≤ 20 := dgB_size n h
/-- The text as it is built. -/
def rt (a b : Nat) (z : Nat → Int) : Nat → ByteArray
  | 0 => dgB a ++ ⟨#[32]⟩ ++ dgB b
  | n + 1 => if z n = 0 then rt a b z n else rt a b z n ++ ⟨#[32]⟩ ++ dgB n ++ ⟨#[58]⟩ ++ dgB (z n).toNat
theorem join_snoc (xs : List (List UInt8)) (y sep : List UInt8) (h : xs ≠ []) : Lib.join (xs ++ [y]) sep = Lib.join xs sep ++ sep ++ y := by
  cases xs with
  | nil => exact absurd rfl h
  | cons x r => rw [List.cons_append, Lib.join_cons, Lib.join_cons]; simp [Lib.joinTail]
theorem joinB_snoc (xs : List ByteArray) (y : ByteArray) (h : xs ≠ []) : joinB (xs ++ [y]) = joinB xs ++ ⟨#[32]⟩ ++ y := by
  unfold joinB
  rw [List.map_append]
  show ByteArray.mk (Lib.join (_ ++ [y.data.toList]) [32]).toArray = _
  rw [join_snoc _ _ _ (by simpa using h)]
  apply ByteArray.ext
  apply Array.ext'
  simp
theorem rt_join (a b : Nat) (z : Nat → Int) (n : Nat) : rt a b z n = joinB (tl a b z n) := by
  induction n with
  | zero =>
    show _ = joinB ([dgB a] ++ [dgB b])
    rw [joinB_snoc _ _ (by simp)]
    have : joinB [dgB a] = dgB a := by
      unfold joinB
      show ByteArray.mk (Lib.join [(dgB a).data.toList] [32]).toArray = _
      rw [Lib.join_one]
    rw [this]; rfl
  | succ n ih =>
    rw [rt, tl]
    by_cases h : z n = 0
    · rw [if_pos h, if_pos h, ih]
    · rw [if_neg h, if_neg h, ih]
      have h2 := (tl_len a b z n).1
      rw [joinB_snoc _ _ (by intro e; rw [e] at h2; simp at h2)]
      simp only [wordB, dgB, colon, ByteArray.append_assoc]
theorem rt_size (a b : Nat) (ha : a < 18446744073709551616) (hb : b < 18446744073709551616) (z : Nat → Int) (hz : ∀ i, i < 36 → 0 ≤ z i ∧ z i < 18446744073709551616) (n : Nat) (hn : n ≤ 36) : (rt a b z n).size ≤ 41 + 42 * n := by
  induction n with
  | zero =>
    have h1 := dgB_sz a ha
    have h2 := dgB_sz b hb
    have h3 : (⟨#[32]⟩ : ByteArray).size = 1 := rfl
    rw [rt, ByteArray.size_append, ByteArray.size_append]; omega
  | succ n ih =>
    have hi := ih (by omega)
    rw [rt]; split
    · omega
    · have h1 := dgB_sz n (by omega)
      have h2 := dgB_sz (z n).toNat (by have := hz n (by omega); omega)
      have h3 : (⟨#[32]⟩ : ByteArray).size = 1 := rfl
      have h4 : (⟨#[58]⟩ : ByteArray).size = 1 := rfl
      rw [ByteArray.size_append, ByteArray.size_append, ByteArray.size_append, ByteArray.size_append]; omega

set_option maxRecDepth 100000 in
set_option maxHeartbeats 4000000 in
theorem rtext_ok (w : World) (p : Pl) (s : Sn) (k : Nat) (hp : Snp w p s) (hR : Right s) (hk : k < s.nw) :
    Calls Try.prog 31 #[.agg #[.int .i64 s.fr, .int .i64 s.up, .slice p.aw s.nw p.cw, .slice p.at' s.nt p.ct, .slice p.ac s.nc p.cc], .int .i64 (s.fr + k)] w fun e w' => e = .returned (.tuple #[.string (textOf s k), .int .i64 0]) ∧ Kept w w' := by
  obtain ⟨r0, r1, r2, r3, r4, r5⟩ := hR.1
  obtain ⟨ok1, ⟨ok2, ok3⟩, ok4, ok5⟩ := hR.2 k hk
  obtain ⟨aw, cw, A, K, at', ct, ac, cc⟩ := p
  obtain ⟨b1, o1, ea, -⟩ := hp.wr (by omega)
  obtain ⟨b3, o3, ec, -⟩ := hp.ts.1.2 (by omega)
  obtain ⟨b5, o5, ee, -⟩ := hp.cs.1.2 (by omega)
  dsimp only at ea ec ee ⊢
  subst ea ec ee
  have hrow := (hp.rows k hk).1
  obtain ⟨b7, o7, e7, -⟩ := hrow.2 (by omega)
  dsimp only at e7 hrow
  rw [ok1, e7] at hrow
  have hzz : ∀ i, i < 36 → 0 ≤ s.Z k i ∧ s.Z k i < 18446744073709551616 := by
    intro i hi
    obtain ⟨b', o', eb, hc⟩ := hrow.2 (by omega)
    have := (hc i hi).2
    simp [Lit.wf, IntKind.min, IntKind.max, IntKind.signed, IntKind.bits] at this
    omega
  obtain ⟨ta, hta⟩ : ∃ n : Nat, s.T k = n := ⟨(s.T k).toNat, by omega⟩
  obtain ⟨ca, hca⟩ : ∃ n : Nat, s.C k = n := ⟨(s.C k).toNat, by omega⟩
  have hta2 : ta ≤ 1000 := by omega
  have hca2 : ca ≤ 1000 := by omega
  have HTX : Hid (textOf s k = rt ta ca (s.Z k) 36) := by show _ = _; rw [rt_join]; unfold textOf; rw [hta, hca]; rfl
  have HSZ := Lib.hid (fun n hn => rt_size ta ca (by omega) (by omega) (s.Z k) hzz n hn)
  rw [HTX.out]
  have K1 : Hid (Kept w (w.alloc (.cells #[.int .i64 s.fr, .int .i64 s.up, .slice (some ⟨b1, o1, none⟩) s.nw cw, .slice (some ⟨b3, o3, none⟩) s.nt ct, .slice (some ⟨b5, o5, none⟩) s.nc cc] 56))) := (Kept.refl w).alloc _
  have hB : ∀ W, Kept (w.alloc (.cells #[.int .i64 s.fr, .int .i64 s.up, .slice (some ⟨b1, o1, none⟩) s.nw cw, .slice (some ⟨b3, o3, none⟩) s.nt ct, .slice (some ⟨b5, o5, none⟩) s.nc cc] 56)) W →
      W.cell? ⟨w.heap.size, 0, none⟩ = some (.int .i64 s.fr) ∧ W.cell? ⟨w.heap.size, 1, none⟩ = some (.int .i64 s.up) ∧ W.cell? ⟨w.heap.size, 2, none⟩ = some (.slice (some ⟨b1, o1, none⟩) s.nw cw) ∧ W.cell? ⟨w.heap.size, 3, none⟩ = some (.slice (some ⟨b3, o3, none⟩) s.nt ct) ∧ W.cell? ⟨w.heap.size, 4, none⟩ = some (.slice (some ⟨b5, o5, none⟩) s.nc cc) ∧
      W.cell? ⟨b1, o1 + k, none⟩ = some (.slice (some ⟨b7, o7, none⟩) 36 (K k)) ∧ W.cell? ⟨b3, o3 + k, none⟩ = some (.int .i64 ta) ∧ W.cell? ⟨b5, o5 + k, none⟩ = some (.int .i64 ca) := fun W hW =>
    ⟨hW.cell (by simp), hW.cell (by simp), hW.cell (by simp), hW.cell (by simp), hW.cell (by simp),
      by have := (K1.out.trans hW).cell (hp.cellW rfl k hk); dsimp only at this; rw [ok1, e7] at this; exact this,
      by have := (K1.out.trans hW).cell (hp.cellT rfl k (by omega)); rw [hta] at this; exact this,
      by have := (K1.out.trans hW).cell (hp.cellC rfl k (by omega)); rw [hca] at this; exact this⟩
  have HB := Lib.hid hB
  have HROW := Lib.hid hrow
  have HZ := Lib.hid hzz
  have HP := Lib.hid hp
  have HRt := Lib.hid (decide_eq_true hR)
  have g1 : (k : Int) < s.nt := by omega
  have g2 : (k : Int) < s.nc := by omega
  have g3 : (k : Int) < s.nw := by omega
  have g4 : IntKind.i64.wrap (k : Int) = k := by rw [IntKind.wrap_i64]; omega
  have g5 : s.fr + (k : Int) - s.fr = k := by omega
  have g6 : ¬ s.fr + (k : Int) < s.fr := by omega
  have g7 : ¬ s.up ≤ s.fr + (k : Int) := by omega
  have hup : 0 ≤ s.up := by omega
  have u1 : IntKind.u64.wrap (ta : Int) = ta := IntWalk.u64_in _ (by omega)
  have u2 : IntKind.u64.wrap (ca : Int) = ca := IntWalk.u64_in _ (by omega)
  have hk64 : (k : Int) < 64 := by omega
  clear hB hrow hzz hp hR ok1 ok2 ok3 ok4 ok5 e7 hta hca r3 r4 r5
  go_enter Try.func31, Try.ntmps31
  go_wp2_with fail
  refine (rright_c _ ⟨some ⟨b1, o1, none⟩, cw, A, K, some ⟨b3, o3, none⟩, ct, some ⟨b5, o5, none⟩, cc⟩ s (HP.out.kept K1.out)).mono ?_
  rw [HRt.out]
  rintro e w1 ⟨rfl, hk1⟩
  have K2 := Lib.hid hk1
  obtain ⟨c0, c1, c2, c3, c4, c5, c6, c7⟩ := HB.out _ hk1
  clear hk1
  go_wp2_with fail
  have HS : Hid (∀ W, Kept w1 W → W.cell? ⟨w.heap.size, 3, none⟩ = some (.slice (some ⟨b3, o3, none⟩) s.nt ct) ∧ W.cell? ⟨w.heap.size, 4, none⟩ = some (.slice (some ⟨b5, o5, none⟩) s.nc cc) ∧ W.cell? ⟨b3, o3 + k, none⟩ = some (.int .i64 ta) ∧ W.cell? ⟨b5, o5 + k, none⟩ = some (.int .i64 ca)) := fun W hW => by
    obtain ⟨_, _, _, d3, d4, _, d6, d7⟩ := HB.out _ (K2.out.trans hW)
    exact ⟨d3, d4, d6, d7⟩
  have KR : Hid (Kept w1 w1) := Kept.refl _
  have hd1 := dgB_sz ta (by omega)
  have hd2 := dgB_sz ca (by omega)
  have t1 : (dgB ta).size + 1 ≤ 9223372036854775807 := by omega
  have t2 : (dgB ta).size + 1 + (dgB ca).size ≤ 9223372036854775807 := by omega
  have v2 : (dgB ta ++ ⟨#[32]⟩ : ByteArray).size + (dgB ca).size ≤ 9223372036854775807 := by
    rw [ByteArray.size_append]
    have : (⟨#[32]⟩ : ByteArray).size = 1 := rfl
    omega
  have n1 : ¬ 9223372036854775807 < (dgB ta).size + 1 := by omega
  have n2 : ¬ 9223372036854775807 < (dgB ta).size + 1 + (dgB ca).size := by omega
  go_region_held3 (fun w' => w'.cell? ⟨w.heap.size, 3, none⟩ = some (.slice (some ⟨b3, o3, none⟩) s.nt ct) ∧ w'.cell? ⟨w.heap.size, 4, none⟩ = some (.slice (some ⟨b5, o5, none⟩) s.nc cc) ∧ w'.cell? ⟨b3, o3 + k, none⟩ = some (.int .i64 ta) ∧ w'.cell? ⟨b5, o5 + k, none⟩ = some (.int .i64 ca))
    (first | exact HS.out _ K6.out | exact HS.out _ K4.out | exact HS.out _ KR.out | exact HS.out _ KR.out.drew)
    (first
      | (go_at_call 77; refine (dig_x _ _ (by omega)).mono ?_; rintro e w6 ⟨rfl, hk6⟩; have K6 := Lib.hid (K4.out.trans hk6); clear hk6)
      | (go_at_call 77; refine (dig_x _ _ (by omega)).mono ?_; rintro e w4 ⟨rfl, hk4⟩; have K4 : Hid (Kept w1 w4) := (by first | exact KR.out.trans hk4 | exact KR.out.drew.trans hk4); clear hk4))
  all_goals
    clear hd1 hd2 t1 t2 v2 n1 n2 c0 c1 c2 c3 c4 c5 c6 c7
    have HT0 : Hid (dgB ta ++ ⟨#[32]⟩ ++ dgB ca = rt ta ca (s.Z k) 0) := rfl
    rw [HT0.out]
    go_wp2_with fail
    go_loopw [7, 8] (fun v i wr => ∃ n : Nat, n ≤ 36 ∧ v = .string (rt ta ca (s.Z k) n) ∧ i = .int .i64 n ∧ Hid (Kept w1 wr)) (fun _ i _ => 36 - (intOf i).toNat)
    case atStart => exact ⟨0, by omega, rfl, rfl, K6.out⟩
    case round =>
      obtain ⟨n, hn, rfl, rfl, hr⟩ := hrel
      obtain ⟨_, _, e2, _, _, e5, _, _⟩ := HB.out _ (K2.out.trans hr.out)
      by_cases hlt : n < 36
      · have i1 : (n : Int) < 36 := by omega
        obtain ⟨zm, hzm⟩ : ∃ m : Nat, s.Z k n = m := ⟨(s.Z k n).toNat, by have := HZ.out n hlt; omega⟩
        have hzm2 : zm < 18446744073709551616 := by have := HZ.out n hlt; omega
        have c8 := (K1.out.trans (K2.out.trans hr.out)).cell (HROW.out.cellI rfl n hlt)
        try dsimp only at c8
        rw [hzm] at c8
        have hsz := HSZ.out n hn
        by_cases h0 : zm = 0
        · have bz : ((zm : Int) != 0) = false := by simp [h0]
          have HT : Hid (rt ta ca (s.Z k) (n + 1) = rt ta ca (s.Z k) n) := by show _ = _; rw [rt, if_pos (by rw [hzm, h0]; rfl)]
          clear hzm
          go_wp2_with fail
          go_roundw
          case rel => exact ⟨n + 1, by omega, by rw [HT.out], by go_num, hr.out⟩
          case measure => simp [intOf]; omega
        · have bz : ((zm : Int) != 0) = true := by simp; exact h0
          have HT : Hid (rt ta ca (s.Z k) (n + 1) = rt ta ca (s.Z k) n ++ ⟨#[32]⟩ ++ dgB n ++ ⟨#[58]⟩ ++ dgB zm) := by show _ = _; rw [rt, if_neg (by rw [hzm]; omega), hzm]; rfl
          have u3 : IntKind.u64.wrap (n : Int) = n := IntWalk.u64_in _ (by omega)
          have hd1 := dgB_sz n (by omega)
          have hd2 := dgB_sz zm hzm2
          have hzz2 := Lib.hid hzm
          clear hzm h0
          generalize rt ta ca (s.Z k) n = R at hsz HT ⊢
          have HS2 : Hid (∀ W, Kept w1 W → W.cell? ⟨w.heap.size, 2, none⟩ = some (.slice (some ⟨b1, o1, none⟩) s.nw cw) ∧ W.cell? ⟨b1, o1 + k, none⟩ = some (.slice (some ⟨b7, o7, none⟩) 36 (K k)) ∧ W.cell? ⟨b7, o7 + n, none⟩ = some (.int .u64 zm)) := fun W hW => by
            obtain ⟨_, _, d2, _, _, d5, _, _⟩ := HB.out _ (K2.out.trans hW)
            refine ⟨d2, d5, ?_⟩
            have := (K1.out.trans (K2.out.trans hW)).cell (HROW.out.cellI rfl n hlt)
            try dsimp only at this
            rw [this, hzz2.out]
          have t0 : (⟨#[32]⟩ : ByteArray).size = 1 := rfl
          have t0' : (⟨#[58]⟩ : ByteArray).size = 1 := rfl
          have t1 : R.size + 1 ≤ 9223372036854775807 := by omega
          have t2 : R.size + 1 + (dgB n).size ≤ 9223372036854775807 := by omega
          have t3 : R.size + 1 + (dgB n).size + 1 ≤ 9223372036854775807 := by omega
          have t4 : R.size + 1 + (dgB n).size + 1 + (dgB zm).size ≤ 9223372036854775807 := by omega
          have v2 : (R ++ ⟨#[32]⟩ : ByteArray).size + (dgB n).size ≤ 9223372036854775807 := by
            rw [ByteArray.size_append]; omega
          have v3 : (R ++ ⟨#[32]⟩ ++ dgB n : ByteArray).size + 1 ≤ 9223372036854775807 := by
            rw [ByteArray.size_append, ByteArray.size_append]; omega
          have v4 : (R ++ ⟨#[32]⟩ ++ dgB n ++ ⟨#[58]⟩ : ByteArray).size + (dgB zm).size ≤ 9223372036854775807 := by
            rw [ByteArray.size_append, ByteArray.size_append, ByteArray.size_append]; omega
          have n1 : ¬ 9223372036854775807 < R.size + 1 := by omega
          have n2 : ¬ 9223372036854775807 < R.size + 1 + (dgB n).size := by omega
          have n3 : ¬ 9223372036854775807 < R.size + 1 + (dgB n).size + 1 := by omega
          have n4 : ¬ 9223372036854775807 < R.size + 1 + (dgB n).size + 1 + (dgB zm).size := by omega
          clear t0 t0'
          have hnn : n < 18446744073709551616 := by omega
          have HC1 : Hid (∀ W, Calls Try.prog 77 #[.int .u64 n] W fun e w' => e = .returned (.string (dgB n)) ∧ Kept W w') := fun W => dig_x n W hnn
          have HC2 : Hid (∀ W, Calls Try.prog 77 #[.int .u64 zm] W fun e w' => e = .returned (.string (dgB zm)) ∧ Kept W w') := fun W => dig_x zm W hzm2
          go_wp2_with fail
          go_region_held3 (fun w' => w'.cell? ⟨w.heap.size, 2, none⟩ = some (.slice (some ⟨b1, o1, none⟩) s.nw cw) ∧ w'.cell? ⟨b1, o1 + k, none⟩ = some (.slice (some ⟨b7, o7, none⟩) 36 (K k)) ∧ w'.cell? ⟨b7, o7 + n, none⟩ = some (.int .u64 zm))
            (first | exact HS2.out _ K9.out | exact HS2.out _ K8.out | exact HS2.out _ hr.out | exact HS2.out _ hr.out.drew)
            (first
              | (go_at_call 77; refine (dig_x _ _ (by omega)).mono ?_; rintro e w9 ⟨rfl, hk9⟩; have K9 := Lib.hid (K8.out.trans hk9); clear hk9)
              | (go_at_call 77; refine (dig_x _ _ (by omega)).mono ?_; rintro e w8 ⟨rfl, hk8⟩; have K8 : Hid (Kept w1 w8) := (by first | exact hr.out.trans hk8 | exact hr.out.drew.trans hk8); clear hk8))
          all_goals
            clear t1 t2 t3 t4 v2 v3 v4 n1 n2 n3 n4 hd1 hd2 hsz
            have HV : Hid (R ++ ⟨#[32]⟩ ++ dgB n ++ ⟨#[58]⟩ ++ dgB zm = rt ta ca (s.Z k) (n + 1)) := HT.out.symm
            rw [HV.out]
            go_wp2_with fail
            go_roundw
            case rel => exact ⟨n + 1, by omega, rfl, by go_num, K9.out⟩
            case measure => simp [intOf]; omega
      · obtain rfl : n = 36 := by omega
        go_wp2_with fail
        go_ret2
        exact ⟨rfl, K1.out.trans (K2.out.trans hr.out)⟩

set_option maxRecDepth 100000 in
set_option maxHeartbeats 2000000 in
theorem rtext_bad (w : World) (p : Pl) (s : Sn) (f : Int) (hp : Snp w p s) (h : ¬ (Right s ∧ s.fr ≤ f ∧ f ≤ s.up - 1)) :
    Calls Try.prog 31 #[.agg #[.int .i64 s.fr, .int .i64 s.up, .slice p.aw s.nw p.cw, .slice p.at' s.nt p.ct, .slice p.ac s.nc p.cc], .int .i64 f] w fun e w' => e = .returned (.tuple #[.string ⟨#[]⟩, .int .i64 (textE s f)]) ∧ Kept w w' := by
  have K1 : Hid (Kept w (w.alloc (.cells #[.int .i64 s.fr, .int .i64 s.up, .slice p.aw s.nw p.cw, .slice p.at' s.nt p.ct, .slice p.ac s.nc p.cc] 56))) := (Kept.refl w).alloc _
  have HP := Lib.hid hp
  by_cases hR : Right s
  · have hin : ¬ (s.fr ≤ f ∧ f ≤ s.up - 1) := fun hh => h ⟨hR, hh⟩
    have hE : textE s f = 1 := by unfold textE; rw [if_neg (fun hh => hh hR), if_neg hin]
    have HRt := Lib.hid (decide_eq_true hR)
    rw [hE]
    by_cases h1 : f < s.fr
    · clear h hR hin hE hp
      go_enter Try.func31, Try.ntmps31
      go_wp2_with fail
      refine (rright_c _ p s (HP.out.kept K1.out)).mono ?_
      rw [HRt.out]
      rintro e w1 ⟨rfl, hk1⟩
      have a0 := hk1.cell (p := ⟨w.heap.size, 0, none⟩) (v := .int .i64 s.fr) (by simp)
      have a1 := hk1.cell (p := ⟨w.heap.size, 1, none⟩) (v := .int .i64 s.up) (by simp)
      have K2 := Lib.hid (K1.out.trans hk1)
      clear hk1
      go_wp2_with fail
      go_ret2
      exact ⟨rfl, K2.out⟩
    · have h2 : s.up ≤ f := by omega
      clear h hR hin hE hp
      go_enter Try.func31, Try.ntmps31
      go_wp2_with fail
      refine (rright_c _ p s (HP.out.kept K1.out)).mono ?_
      rw [HRt.out]
      rintro e w1 ⟨rfl, hk1⟩
      have a0 := hk1.cell (p := ⟨w.heap.size, 0, none⟩) (v := .int .i64 s.fr) (by simp)
      have a1 := hk1.cell (p := ⟨w.heap.size, 1, none⟩) (v := .int .i64 s.up) (by simp)
      have K2 := Lib.hid (K1.out.trans hk1)
      clear hk1
      go_wp2_with fail
      go_ret2
      exact ⟨rfl, K2.out⟩
  · have hE : textE s f = 12 := by unfold textE; rw [if_pos hR]
    have HRt := Lib.hid (decide_eq_false hR)
    rw [hE]
    clear h hR hE hp
    go_enter Try.func31, Try.ntmps31
    go_wp2_with fail
    refine (rright_c _ p s (HP.out.kept K1.out)).mono ?_
    rw [HRt.out]
    rintro e w1 ⟨rfl, hk1⟩
    have K2 := Lib.hid (K1.out.trans hk1)
    clear hk1
    go_wp2_with fail
    go_ret2
    exact ⟨rfl, K2.out⟩
end Go.Proofs.Ytcjadneamacilaa.C

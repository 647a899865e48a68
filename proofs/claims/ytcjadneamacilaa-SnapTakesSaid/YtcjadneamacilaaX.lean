/- snap.Text. -/
import Derived.Test.YtcjadneamacilaaU
import Derived.Test.YtcjadneamacilaaShelf
import Derived.Deep.RegionHeld3
import Derived.Maps.AppendAt
import Derived.RangeFuncBox
import Derived.Laws.OwnMore
import Derived.IntWalk
namespace Go.Proofs.Ytcjadneamacilaa.C
open Go.RowKit

def colon : ByteArray := ⟨#[58]⟩
def wordB (n : Nat) (z : Int) : ByteArray := dgB n ++ colon ++ dgB z.toNat
def tl (a b : Nat) (z : Nat → Int) : Nat → List ByteArray
  | 0 => [dgB a, dgB b]
  | n + 1 => if z n = 0 then tl a b z n else tl a b z n ++ [wordB n (z n)]
def joinB (xs : List ByteArray) : ByteArray := ⟨(Lib.join (xs.map (·.data.toList)) [32]).toArray⟩
def textOf (s : Sn) (k : Nat) : ByteArray := joinB (tl (s.T k).toNat (s.C k).toNat (s.Z k) 36)
def textE (s : Sn) (f : Int) : Int := if ¬ Right s then 12 else if s.fr ≤ f ∧ f ≤ s.up - 1 then 0 else 1

theorem tl_len (a b : Nat) (z : Nat → Int) (n : Nat) : 2 ≤ (tl a b z n).length ∧ (tl a b z n).length ≤ n + 2 := by
  induction n with
  | zero => simp [tl]
  | succ n ih =>
    unfold tl; split
    · omega
    · simp; omega
theorem tl_small (a b : Nat) (ha : a < 18446744073709551616) (hb : b < 18446744073709551616) (z : Nat → Int) (hz : ∀ i, i < 36 → 0 ≤ z i ∧ z i < 18446744073709551616) (n : Nat) (hn : n ≤ 36) : ∀ x ∈ tl a b z n, x.data.toList.length ≤ 41 := by
  induction n with
  | zero =>
    intro x hx
    simp [tl] at hx
    rcases hx with rfl | rfl
    · have := dgB_len a ha; omega
    · have := dgB_len b hb; omega
  | succ n ih =>
    intro x hx
    unfold tl at hx; split at hx
    · exact ih (by omega) x hx
    · rcases List.mem_append.1 hx with h | h
      · exact ih (by omega) x h
      · rw [List.mem_singleton.1 h]
        have h1 := dgB_len n (by omega)
        have h2 := dgB_len (z n).toNat (by have := hz n (by omega); omega)
        show (dgB n ++ colon ++ dgB (z n).toNat).data.toList.length ≤ 41
        rw [ByteArray.data_append, ByteArray.data_append, Array.toList_append, Array.toList_append, List.length_append, List.length_append]
        have hc : colon.data.toList.length = 1 := rfl
        omega
theorem lens_le (xs : List (List UInt8)) (m : Nat) (h : ∀ x ∈ xs, x.length ≤ m) : Lib.lens xs ≤ m * xs.length := by
  induction xs with
  | nil => simp [Lib.lens]
  | cons x r ih =>
    have h1 := h x (by simp)
    have h2 := ih (fun y hy => h y (by simp [hy]))
    simp only [Lib.lens, List.map_cons, List.sum_cons, List.length_cons] at h2 ⊢
    rw [Nat.mul_succ]; omega
theorem joinB_le (xs : List ByteArray) (h0 : 0 < xs.length) (hn : xs.length ≤ 40) (h : ∀ x ∈ xs, x.data.toList.length ≤ 41) : (Lib.join (xs.map (·.data.toList)) [32]).length ≤ 140737488355328 := by
  cases xs with
  | nil => simp at h0
  | cons x r =>
    rw [List.map_cons, Lib.join_length]
    have hl := lens_le (x.data.toList :: r.map (·.data.toList)) 41 (by
      intro y hy
      rcases List.mem_cons.1 hy with rfl | hy
      · exact h x (by simp)
      · obtain ⟨z, hz, rfl⟩ := List.mem_map.1 hy
        exact h z (by simp [hz]))
    simp only [List.length_cons, List.length_map, List.length_nil] at hl hn ⊢
    omega

theorem dgB_size (n : Nat) (h : n < 18446744073709551616) : (strOfNums (dgL n)).size ≤ 20 := by
  have h1 := dgB_len n h
  rw [Array.length_toList] at h1
  exact h1

theorem own_keptX {w w' : World} {base : Nat} {e : TypeId} {size : Nat} {v : Value} {n : Nat} {xs : List Value} (h : w.ownsRow base e size v n xs) (k : Kept w w') : w'.ownsRow base e size v n xs :=
  h.kept (grownBy_kept k none) (by cases hv : v.ownBlock <;> simp)

set_option maxRecDepth 100000 in
set_option maxHeartbeats 4000000 in
theorem text_ok (w : World) (p : Pl) (s : Sn) (k : Nat) (hp : Snp w p s) (hR : Right s) (hk : k < s.nw) :
    Calls Try.prog 27 #[.agg #[.int .i64 s.fr, .int .i64 s.up, .slice p.aw s.nw p.cw, .slice p.at' s.nt p.ct, .slice p.ac s.nc p.cc], .int .i64 (s.fr + k)] w fun e w' => e = .returned (.tuple #[.string (textOf s k), .int .i64 0]) ∧ Kept w w' := by
  have infoE : (Try.prog.info? 9).map (fun i => (i.zero, i.size, i.bytes)) = some (some (.string ⟨#[]⟩), 1, 16) := by kernel_rfl
  obtain ⟨i9, hi, hz0, hz1, hz2⟩ := info_parts infoE
  clear infoE
  obtain ⟨r0, r1, r2, r3, r4, r5⟩ := hR.1
  obtain ⟨ok1, ⟨ok2, ok3⟩, ok4, ok5⟩ := hR.2 k hk
  obtain ⟨aw, cw, A, K, at', ct, ac, cc⟩ := p
  obtain ⟨b1, o1, ea, -⟩ := hp.wr (by omega)
  obtain ⟨b3, o3, ec, -⟩ := hp.ts.1.2 (by omega)
  obtain ⟨b5, o5, ee, -⟩ := hp.cs.1.2 (by omega)
  dsimp only at ea ec ee ⊢
  subst ea ec ee
  have hrow := (hp.rows k hk).1
  obtain ⟨b7, o7, e7, -⟩ := hrow.2 (by omega)
  dsimp only at e7 hrow
  rw [ok1, e7] at hrow
  have hzz : ∀ i, i < 36 → 0 ≤ s.Z k i ∧ s.Z k i < 18446744073709551616 := by
    intro i hi
    obtain ⟨b', o', eb, hc⟩ := hrow.2 (by omega)
    have := (hc i hi).2
    simp [Lit.wf, IntKind.min, IntKind.max, IntKind.signed, IntKind.bits] at this
    omega
  obtain ⟨ta, hta⟩ : ∃ n : Nat, s.T k = n := ⟨(s.T k).toNat, by omega⟩
  obtain ⟨ca, hca⟩ : ∃ n : Nat, s.C k = n := ⟨(s.C k).toNat, by omega⟩
  have HTX : Hid (textOf s k = joinB (tl ta ca (s.Z k) 36)) := by show _ = _; unfold textOf; rw [hta, hca]; rfl
  rw [HTX.out]
  have K1 : Hid (Kept w (w.alloc (.cells #[.int .i64 s.fr, .int .i64 s.up, .slice (some ⟨b1, o1, none⟩) s.nw cw, .slice (some ⟨b3, o3, none⟩) s.nt ct, .slice (some ⟨b5, o5, none⟩) s.nc cc] 56))) := (Kept.refl w).alloc _
  have hB : ∀ W, Kept (w.alloc (.cells #[.int .i64 s.fr, .int .i64 s.up, .slice (some ⟨b1, o1, none⟩) s.nw cw, .slice (some ⟨b3, o3, none⟩) s.nt ct, .slice (some ⟨b5, o5, none⟩) s.nc cc] 56)) W →
      W.cell? ⟨w.heap.size, 0, none⟩ = some (.int .i64 s.fr) ∧ W.cell? ⟨w.heap.size, 1, none⟩ = some (.int .i64 s.up) ∧ W.cell? ⟨w.heap.size, 2, none⟩ = some (.slice (some ⟨b1, o1, none⟩) s.nw cw) ∧ W.cell? ⟨w.heap.size, 3, none⟩ = some (.slice (some ⟨b3, o3, none⟩) s.nt ct) ∧ W.cell? ⟨w.heap.size, 4, none⟩ = some (.slice (some ⟨b5, o5, none⟩) s.nc cc) ∧
      W.cell? ⟨b1, o1 + k, none⟩ = some (.slice (some ⟨b7, o7, none⟩) 36 (K k)) ∧ W.cell? ⟨b3, o3 + k, none⟩ = some (.int .i64 ta) ∧ W.cell? ⟨b5, o5 + k, none⟩ = some (.int .i64 ca) := fun W hW =>
    ⟨hW.cell (by simp), hW.cell (by simp), hW.cell (by simp), hW.cell (by simp), hW.cell (by simp),
      by have := (K1.out.trans hW).cell (hp.cellW rfl k hk); dsimp only at this; rw [ok1, e7] at this; exact this,
      by have := (K1.out.trans hW).cell (hp.cellT rfl k (by omega)); rw [hta] at this; exact this,
      by have := (K1.out.trans hW).cell (hp.cellC rfl k (by omega)); rw [hca] at this; exact this⟩
  have HB := Lib.hid hB
  have HROW := Lib.hid hrow
  have HZ := Lib.hid hzz
  have HP := Lib.hid hp
  have HRt := Lib.hid (decide_eq_true hR)
  have bI : inB (s.fr + k) s.fr (s.up - 1) = true := decide_eq_true (by omega)
  have g1 : (k : Int) < s.nt := by omega
  have g2 : (k : Int) < s.nc := by omega
  have g3 : (k : Int) < s.nw := by omega
  have g4 : IntKind.i64.wrap (k : Int) = k := by rw [IntKind.wrap_i64]; omega
  have g5 : s.fr + (k : Int) - s.fr = k := by omega
  have hta2 : ta ≤ 1000 := by omega
  have hca2 : ca ≤ 1000 := by omega
  have hup : 0 ≤ s.up := by omega
  have u1 : IntKind.u64.wrap (ta : Int) = ta := IntWalk.u64_in _ (by omega)
  have u2 : IntKind.u64.wrap (ca : Int) = ca := IntWalk.u64_in _ (by omega)
  have hk64 : (k : Int) < 64 := by omega
  clear hB hrow hzz hp hR ok1 ok2 ok3 ok4 ok5 e7 hta hca r3 r4 r5
  go_enter Try.func27, Try.ntmps27
  go_wp2_with fail
  refine (right_c _ ⟨some ⟨b1, o1, none⟩, cw, A, K, some ⟨b3, o3, none⟩, ct, some ⟨b5, o5, none⟩, cc⟩ s (HP.out.kept K1.out)).mono ?_
  rw [HRt.out]
  rintro e w1 ⟨rfl, hk1⟩
  have K2 := Lib.hid hk1
  obtain ⟨c0, c1, c2, c3, c4, c5, c6, c7⟩ := HB.out _ hk1
  clear hk1
  go_wp2_with (go_at_call 67; refine (sin_c _ _ _ _).mono ?_; rintro e w' ⟨rfl, rfl⟩)
  have HS : Hid (∀ W, Kept w1 W → W.cell? ⟨w.heap.size, 3, none⟩ = some (.slice (some ⟨b3, o3, none⟩) s.nt ct) ∧ W.cell? ⟨w.heap.size, 4, none⟩ = some (.slice (some ⟨b5, o5, none⟩) s.nc cc) ∧ W.cell? ⟨b3, o3 + k, none⟩ = some (.int .i64 ta) ∧ W.cell? ⟨b5, o5 + k, none⟩ = some (.int .i64 ca)) := fun W hW => by
    obtain ⟨_, _, _, d3, d4, _, d6, d7⟩ := HB.out _ (K2.out.trans hW)
    exact ⟨d3, d4, d6, d7⟩
  have KR : Hid (Kept w1 w1) := Kept.refl _
  go_region_held3 (fun w' => w'.cell? ⟨w.heap.size, 3, none⟩ = some (.slice (some ⟨b3, o3, none⟩) s.nt ct) ∧ w'.cell? ⟨w.heap.size, 4, none⟩ = some (.slice (some ⟨b5, o5, none⟩) s.nc cc) ∧ w'.cell? ⟨b3, o3 + k, none⟩ = some (.int .i64 ta) ∧ w'.cell? ⟨b5, o5 + k, none⟩ = some (.int .i64 ca))
    (first | exact HS.out _ (K6.out.alloc _) | exact HS.out _ K6.out | exact HS.out _ K4.out | exact HS.out _ KR.out | exact HS.out _ KR.out.drew)
    (first
      | (go_at_call 75; refine (digits_c _ _ (by omega)).mono ?_; rintro e w6 ⟨rfl, hk6⟩; have K6 := Lib.hid (K4.out.trans hk6); clear hk6)
      | (go_at_call 75; refine (digits_c _ _ (by omega)).mono ?_; rintro e w4 ⟨rfl, hk4⟩; have K4 : Hid (Kept w1 w4) := (by first | exact KR.out.trans hk4 | exact KR.out.drew.trans hk4); clear hk4))
  all_goals
    have HO := Lib.hid (World.ownsRow_lit (base := w1.heap.size) (size := 1) (e := 9) w6 #[.string (dgB ta), .string (dgB ca)] 2 K6.out.size (by simp [maxLen]) rfl)
    have K7 : Hid (Kept w1 (w6.alloc (.cells #[.string (dgB ta), .string (dgB ca)] 9))) := K6.out.alloc _
    simp only [dgB] at HO K7
    generalize w6.alloc (.cells #[.string (strOfNums (dgL ta)), .string (strOfNums (dgL ca))] 9) = w7 at HO K7 ⊢
    obtain ⟨_, _, e2, _, _, e5, _, _⟩ := HB.out _ (K2.out.trans K7.out)
    go_wp2_with fail
    go_loopw [7, 48] (fun v i wr => ∃ n : Nat, n ≤ 36 ∧ i = .int .i64 n ∧ Hid (Kept w1 wr ∧ wr.ownsRow w1.heap.size 9 1 v (tl ta ca (s.Z k) n).length ((tl ta ca (s.Z k) n).map Value.string))) (fun _ i _ => 36 - (intOf i).toNat)
    case atStart => exact ⟨0, by omega, rfl, K7.out, HO.out⟩
    case round =>
      obtain ⟨n, hn, rfl, hr⟩ := hrel
      by_cases hlt : n < 36
      · have i1 : (n : Int) < 36 := by omega
        obtain ⟨zm, hzm⟩ : ∃ m : Nat, s.Z k n = m := ⟨(s.Z k n).toNat, by have := HZ.out n hlt; omega⟩
        have hzm2 : zm < 18446744073709551616 := by have := HZ.out n hlt; omega
        have c8 := (K1.out.trans (K2.out.trans hr.out.1)).cell (HROW.out.cellI rfl n hlt)
        try dsimp only at c8
        rw [hzm] at c8
        by_cases h0 : zm = 0
        · have bz : ((zm : Int) != 0) = false := by simp [h0]
          have HT : Hid (tl ta ca (s.Z k) (n + 1) = tl ta ca (s.Z k) n) := by show _ = _; rw [tl, if_pos (by rw [hzm, h0]; rfl)]
          clear hzm
          go_wp2_with fail
          go_roundw
          case rel => exact ⟨n + 1, by omega, by go_num, by rw [HT.out]; exact hr.out⟩
          case measure => simp [intOf]; omega
        · have bz : ((zm : Int) != 0) = true := by simp; exact h0
          have HT : Hid (tl ta ca (s.Z k) (n + 1) = tl ta ca (s.Z k) n ++ [wordB n zm]) := by show _ = _; rw [tl, if_neg (by rw [hzm]; omega), hzm]
          have u3 : IntKind.u64.wrap (n : Int) = n := IntWalk.u64_in _ (by omega)
          have hlen := tl_len ta ca (s.Z k) n
          clear hzm h0
          go_wp2_with fail
          refine (digits_c _ n (by omega)).mono ?_
          have hd1 := dgB_size n (by omega)
          have hd2 := dgB_size zm hzm2
          have HW : Hid (wordB n zm = strOfNums (dgL n) ++ ⟨#[58]⟩ ++ strOfNums (dgL zm)) := rfl
          generalize strOfNums (dgL n) = D1 at hd1 HW ⊢
          rintro e w8 ⟨rfl, hk8⟩
          have K8 := Lib.hid hk8
          clear hk8
          have s1 : D1.size + 1 ≤ 9223372036854775807 := by omega
          go_wp2_with fail
          refine (digits_c _ zm (by omega)).mono ?_
          generalize strOfNums (dgL zm) = D2 at hd2 HW ⊢
          have s2 : (D1 ++ ⟨#[58]⟩ : ByteArray).size + D2.size ≤ 9223372036854775807 := by
            rw [ByteArray.size_append]
            have : (⟨#[58]⟩ : ByteArray).size = 1 := rfl
            omega
          have s3 : D1.size + 1 + D2.size ≤ 9223372036854775807 := by omega
          rintro e w9 ⟨rfl, hk9⟩
          have K9 := Lib.hid (hr.out.1.trans (K8.out.trans hk9))
          have HO9 := Lib.hid (own_keptX hr.out.2 (K8.out.trans hk9))
          clear hk9
          go_wp2_with (at_builtin; refine wpList_append_own_at _ rfl _ _ 154 rfl w1.heap.size 9 i9 (.string ⟨#[]⟩) 1 16 Try.underlying154 hi hz0 hz1 hz2 rfl (by decide) _ _ _ rfl (HO9.out.alloc _) ⟨w9.heap.size, 0, none⟩ 1 1 [.string (D1 ++ ⟨#[58]⟩ ++ D2)] rfl rfl (cell_one_new _ _ _) ?c2 ?c3 ?c4 ?c5 ?_)
          case c2 => simp [Value.oneCell']
          case c3 => simp [maxLen]; omega
          case c4 => omega
          case c5 => have := K9.out.size; simp; omega
          intro v' wa hown' hgrow _ _
          have hka : Kept w1 wa := Below.grown (K9.out.alloc _) hgrow (K9.out.alloc _).size (fun j hj => (HO9.out.lt j hj).1)
          have HA : Hid (Kept w1 wa ∧ wa.ownsRow w1.heap.size 9 1 v' (tl ta ca (s.Z k) (n + 1)).length ((tl ta ca (s.Z k) (n + 1)).map Value.string)) := ⟨hka, by rw [HT.out, HW.out]; simpa using hown'⟩
          clear hown' hgrow hka
          go_wp2_with fail
          go_roundw
          case rel => exact ⟨n + 1, by omega, by go_num, HA.out⟩
          case measure => simp [intOf]; omega
      · obtain rfl : n = 36 := by omega
        have hlen := tl_len ta ca (s.Z k) 36
        have hsm := tl_small ta ca (by omega) (by omega) (s.Z k) (fun i hi => HZ.out i hi) 36 (by omega)
        have hj := joinB_le (tl ta ca (s.Z k) 36) (by omega) (by omega) hsm
        obtain ⟨hk, ho⟩ := hr.out
        have HJ : Hid (∃ g cap, u7 = .slice (some ⟨g, 0, none⟩) (tl ta ca (s.Z k) 36).length cap ∧ Calls Try.prog 76 #[.slice (some ⟨g, 0, none⟩) (tl ta ca (s.Z k) 36).length cap, .string ⟨#[32]⟩] wr fun e w' => e = .returned (.string (joinB (tl ta ca (s.Z k) 36))) ∧ Kept wr w') := by
          obtain ⟨-, h | ⟨g, cap, cur, rfl, hg1, hg2, hg3, hg4, hg5, hg6⟩⟩ := ho
          · omega
          · refine ⟨g, cap, rfl, ?_⟩
            refine Try.strings_Join g 0 cap (tl ta ca (s.Z k) 36) ⟨#[32]⟩ wr ?_ (Array.getElem?_eq_some_iff.1 hg2).1 (by omega) hg3 hj
            intro j x hx
            have hjl := (List.getElem?_eq_some_iff.1 hx).1
            have hc : cur[j]? = some (.string x) := by
              have h1 : (cur.toList.take ((tl ta ca (s.Z k) 36).length * 1))[j]? = some (.string x) := by rw [hg6, List.getElem?_map, hx]; rfl
              rw [List.getElem?_take_of_lt (by omega)] at h1
              simpa using h1
            simp [World.cell?, hg2, hc]
        obtain ⟨g, cap, rfl, hcall⟩ := HJ.out
        have HC := Lib.hid hcall
        have HK := Lib.hid hk
        clear hcall hk ho hj hsm HJ hr
        generalize (tl ta ca (s.Z k) 36).length = tn at HC hlen ⊢
        go_wp2_with fail
        refine HC.out.mono ?_
        rintro e wz ⟨rfl, hkz⟩
        go_wp2_with fail
        go_ret2
        exact ⟨rfl, K1.out.trans (K2.out.trans (HK.out.trans hkz))⟩
end Go.Proofs.Ytcjadneamacilaa.C

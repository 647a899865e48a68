/- snap.Words. -/
import Derived.Test.YtcjadneamacilaaP
namespace Go.Proofs.Ytcjadneamacilaa.C
open Go.RowKit Go.Shelf
attribute [local go_sem] Oper.semAt_some

/-- What the two boxes of two snaps that came in by value hold. -/
structure Two (w : World) (b1 b2 : Nat) (p q : Pl) (s t : Sn) : Prop where
  a0 : w.cell? ⟨b1, 0, none⟩ = some (.int .i64 s.fr)
  a1 : w.cell? ⟨b1, 1, none⟩ = some (.int .i64 s.up)
  a2 : w.cell? ⟨b1, 2, none⟩ = some (.slice p.aw s.nw p.cw)
  a3 : w.cell? ⟨b1, 3, none⟩ = some (.slice p.at' s.nt p.ct)
  a4 : w.cell? ⟨b1, 4, none⟩ = some (.slice p.ac s.nc p.cc)
  c0 : w.cell? ⟨b2, 0, none⟩ = some (.int .i64 t.fr)
  c1 : w.cell? ⟨b2, 1, none⟩ = some (.int .i64 t.up)
  c2 : w.cell? ⟨b2, 2, none⟩ = some (.slice q.aw t.nw q.cw)
  c3 : w.cell? ⟨b2, 3, none⟩ = some (.slice q.at' t.nt q.ct)
  c4 : w.cell? ⟨b2, 4, none⟩ = some (.slice q.ac t.nc q.cc)
theorem Two.kept {w w' : World} {b1 b2 : Nat} {p q : Pl} {s t : Sn} (h : Two w b1 b2 p q s t) (k : Kept w w') : Two w' b1 b2 p q s t :=
  ⟨k.cell h.a0, k.cell h.a1, k.cell h.a2, k.cell h.a3, k.cell h.a4, k.cell h.c0, k.cell h.c1, k.cell h.c2, k.cell h.c3, k.cell h.c4⟩
theorem two_new (w : World) (p q : Pl) (s t : Sn) : Two ((w.alloc (.cells #[Value.int .i64 s.fr, .int .i64 s.up, .slice p.aw s.nw p.cw, .slice p.at' s.nt p.ct, .slice p.ac s.nc p.cc] 56)).alloc (.cells #[Value.int .i64 t.fr, .int .i64 t.up, .slice q.aw t.nw q.cw, .slice q.at' t.nt q.ct, .slice q.ac t.nc q.cc] 56)) w.heap.size (w.heap.size + 1) p q s t := by
  have ha : ∀ i v, (#[Value.int .i64 s.fr, .int .i64 s.up, .slice p.aw s.nw p.cw, .slice p.at' s.nt p.ct, .slice p.ac s.nc p.cc] : Array Value)[i]? = some v → ((w.alloc (.cells #[Value.int .i64 s.fr, .int .i64 s.up, .slice p.aw s.nw p.cw, .slice p.at' s.nt p.ct, .slice p.ac s.nc p.cc] 56)).alloc (.cells #[Value.int .i64 t.fr, .int .i64 t.up, .slice q.aw t.nw q.cw, .slice q.at' t.nt q.ct, .slice q.ac t.nc q.cc] 56)).cell? ⟨w.heap.size, i, none⟩ = some v := fun i v hv => by
    rw [World.cell?_alloc_lt _ _ _ (by simp), World.cell?_alloc_new]; exact hv
  have hb : ∀ i v, (#[Value.int .i64 t.fr, .int .i64 t.up, .slice q.aw t.nw q.cw, .slice q.at' t.nt q.ct, .slice q.ac t.nc q.cc] : Array Value)[i]? = some v → ((w.alloc (.cells #[Value.int .i64 s.fr, .int .i64 s.up, .slice p.aw s.nw p.cw, .slice p.at' s.nt p.ct, .slice p.ac s.nc p.cc] 56)).alloc (.cells #[Value.int .i64 t.fr, .int .i64 t.up, .slice q.aw t.nw q.cw, .slice q.at' t.nt q.ct, .slice q.ac t.nc q.cc] 56)).cell? ⟨w.heap.size + 1, i, none⟩ = some v := fun i v hv => by
    rw [show w.heap.size + 1 = (w.alloc (.cells #[Value.int .i64 s.fr, .int .i64 s.up, .slice p.aw s.nw p.cw, .slice p.at' s.nt p.ct, .slice p.ac s.nc p.cc] 56)).heap.size from by simp, World.cell?_alloc_new]; exact hv
  exact ⟨ha 0 _ rfl, ha 1 _ rfl, ha 2 _ rfl, ha 3 _ rfl, ha 4 _ rfl, hb 0 _ rfl, hb 1 _ rfl, hb 2 _ rfl, hb 3 _ rfl, hb 4 _ rfl⟩

theorem apart_c (a b : Option Addr) (na nb ca cb : Nat) (w : World) :
    Calls Try.prog 68 #[.slice a na ca, .slice b nb cb] w fun e w' => e = .returned (.func (.func 84) #[] #[.pointer (some ⟨w.heap.size, 0, none⟩), .pointer (some ⟨w.heap.size + 1, 0, none⟩)]) ∧ w' = (w.alloc (.cells #[.slice a na ca] 23)).alloc (.cells #[.slice b nb cb] 23) :=
  (callsIn_wide (n := 1)).1 (apart_in Fence.wide 1 trivial rfl a b na nb ca cb w)

def wordsE (s t : Sn) (f : Int) : Int := if pairE s t ≠ 0 then pairE s t else if s.fr ≤ f ∧ f ≤ s.up - 1 then 0 else 1
def difAt (s t : Sn) (k : Nat) : List Int := dif (s.Z k) (t.Z k) (t.L k) (s.L k)
def wordsL (s t : Sn) (f : Int) : List Int := if wordsE s t f = 0 then difAt s t (f - s.fr).toNat else []
theorem pair0 {s t : Sn} (h : pairE s t = 0) : Right s ∧ Right t ∧ s.fr = t.fr ∧ s.up = t.up := by
  unfold pairE at h
  by_cases h1 : Right s
  · by_cases h2 : Right t
    · rw [if_neg (fun hh => hh.elim (fun x => x h1) (fun x => x h2))] at h
      by_cases h3 : s.fr ≠ t.fr ∨ s.up ≠ t.up
      · rw [if_pos h3] at h; omega
      · exact ⟨h1, h2, by omega, by omega⟩
    · rw [if_pos (.inr h2)] at h; omega
  · rw [if_pos (.inl h1)] at h; omega
theorem dif_wf {z y : Nat → Int} {nb k : Nat} (hk : k ≤ 1000) : ∀ x ∈ dif z y nb k, (Lit.int .i64 x).wf = true := by
  intro x hx
  simp only [dif, List.mem_map, List.mem_filter, List.mem_range] at hx
  obtain ⟨i, ⟨hi, _⟩, rfl⟩ := hx
  simp [Lit.wf, IntKind.min, IntKind.max, IntKind.signed, IntKind.bits]; omega

set_option maxRecDepth 100000 in
set_option maxHeartbeats 4000000 in
theorem swords_c (w : World) (p q : Pl) (s t : Sn) (f : Int) (hp : Snp w p s) (hq : Snp w q t) :
    Calls Try.prog 24 #[.agg #[Value.int .i64 s.fr, .int .i64 s.up, .slice p.aw s.nw p.cw, .slice p.at' s.nt p.ct, .slice p.ac s.nc p.cc], .agg #[Value.int .i64 t.fr, .int .i64 t.up, .slice q.aw t.nw q.cw, .slice q.at' t.nt q.ct, .slice q.ac t.nc q.cc], .int .i64 f] w fun e w' => ∃ v, e = .returned (.tuple #[v, .int .i64 (wordsE s t f)]) ∧ Lst w' v (wordsL s t f) ∧ Kept w w' := by
  have infoE : (Try.prog.info? 3).map (fun i => (i.zero, i.size, i.bytes)) = some (some (.int .i64 0), 1, 8) := by kernel_rfl
  obtain ⟨i3, hi, hz0, hz1, hz2⟩ := info_parts infoE
  clear infoE
  by_cases h0 : pairE s t = 0
  · obtain ⟨hR1, hR2, e1, e2⟩ := pair0 h0
    obtain ⟨r0, r1, r2, r3, r4, r5⟩ := hR1.1
    have HP := Lib.hid h0
    by_cases hin : s.fr ≤ f ∧ f ≤ s.up - 1
    · have hE : wordsE s t f = 0 := by unfold wordsE; rw [if_neg (by omega), if_pos hin]
      have hL : wordsL s t f = difAt s t (f - s.fr).toNat := if_pos hE
      rw [hE, hL]
      obtain ⟨k, hk⟩ : ∃ k : Nat, f - s.fr = k := ⟨(f - s.fr).toNat, by omega⟩
      have hkk : (f - s.fr).toNat = k := by omega
      rw [hkk]
      have hkn : k < s.nw := by omega
      have hkm : k < t.nw := by have := hR2.1.2.2.2.1; omega
      have bI : inB f s.fr (s.up - 1) = true := decide_eq_true hin
      obtain ⟨aw, cw, A, K, at', ct, ac, cc⟩ := p
      obtain ⟨aw', cw', A', K', at'', ct', ac', cc'⟩ := q
      obtain ⟨b1, o1, ea, -⟩ := hp.wr (by omega)
      obtain ⟨b2, o2, eb, -⟩ := hq.wr (by omega)
      dsimp only at ea eb ⊢
      subst ea eb
      have HA := Lib.hid hp
      have HB := Lib.hid hq
      have K2 : Hid (Kept w ((w.alloc (.cells #[Value.int .i64 s.fr, .int .i64 s.up, .slice (some ⟨b1, o1, none⟩) s.nw cw, .slice at' s.nt ct, .slice ac s.nc cc] 56)).alloc (.cells #[Value.int .i64 t.fr, .int .i64 t.up, .slice (some ⟨b2, o2, none⟩) t.nw cw', .slice at'' t.nt ct', .slice ac' t.nc cc'] 56))) := ((Kept.refl w).alloc _).alloc _
      have HT := Lib.hid (two_new w ⟨some ⟨b1, o1, none⟩, cw, A, K, at', ct, ac, cc⟩ ⟨some ⟨b2, o2, none⟩, cw', A', K', at'', ct', ac', cc'⟩ s t)
      clear hp hq
      have hk2 : f - t.fr = k := by omega
      have HL1 : Hid (s.L k = 36) := (hR1.2 k hkn).1
      have HL2 : Hid (t.L k = 36) := (hR2.2 k hkm).1
      have g1 : (k : Int) < s.nw := by omega
      have g2 : (k : Int) < t.nw := by omega
      have hup : 0 ≤ s.up := by omega
      have hf0 : s.fr ≤ f := hin.1
      have hf1 : f ≤ s.up - 1 := hin.2
      have ht0 : 0 ≤ t.fr := by omega
      have ht1 : t.fr ≤ f := by omega
      clear hE hL hkk h0 hR1 hR2 e1 e2 hin
      refine (callsIn_wide (n := 3)).1 ?_
      refine callsIn_of_wp_marks Try.func24 rfl trivial ?_ rfl
      simp only [Try.ntmps24, List.size_toArray, List.length_cons, List.length_nil, Nat.reduceAdd, Nat.reduceSub, Array.replicate_succ, Array.replicate_zero, List.push_toArray, List.append_toArray, List.nil_append, List.cons_append]
      refine wpIn_wide.2 ?_
      go_wp2_with fail
      refine (pair_c _ _ _ s t (HA.out.kept K2.out) (HB.out.kept K2.out)).mono ?_
      rw [HP.out]
      rintro e w1 ⟨rfl, hk1⟩
      have K1 := Lib.hid (K2.out.trans hk1)
      have HT1 := Lib.hid (HT.out.kept hk1)
      have a0 := HT1.out.a0
      have a1 := HT1.out.a1
      clear hk1
      go_wp2_with (go_at_call 67; refine (sin_c _ _ _ _).mono ?_; rintro e w' ⟨rfl, rfl⟩)
      have HQ : Hid (∀ W, Kept w1 W → W.cell? ⟨w.heap.size, 2, none⟩ = some (.slice (some ⟨b1, o1, none⟩) s.nw cw) ∧ W.cell? ⟨w.heap.size, 0, none⟩ = some (.int .i64 s.fr) ∧ W.cell? ⟨w.heap.size + 1, 2, none⟩ = some (.slice (some ⟨b2, o2, none⟩) t.nw cw') ∧ W.cell? ⟨w.heap.size + 1, 0, none⟩ = some (.int .i64 t.fr) ∧ W.cell? ⟨b1, o1 + k, none⟩ = some (.slice (A k) 36 (K k)) ∧ W.cell? ⟨b2, o2 + k, none⟩ = some (.slice (A' k) 36 (K' k))) := fun W hW =>
        ⟨hW.cell HT1.out.a2, hW.cell HT1.out.a0, hW.cell HT1.out.c2, hW.cell HT1.out.c0, by have := (K1.out.trans hW).cell (HA.out.cellW rfl k hkn); rw [HL1.out] at this; exact this, by have := (K1.out.trans hW).cell (HB.out.cellW rfl k hkm); rw [HL2.out] at this; exact this⟩
      have KW : Hid (Kept w1 (w1.alloc (.cells #[.slice none 0 0] 22))) := (Kept.refl _).alloc _
      have bW := Boxed.new w1 22 (.slice none 0 0)
      have szW : (w1.alloc (.cells #[.slice none 0 0] 22)).heap.size = w1.heap.size + 1 := by simp
      generalize w1.alloc (.cells #[.slice none 0 0] 22) = W3 at KW bW szW ⊢
      have HBW := Lib.hid bW
      have g3 : IntKind.i64.wrap (k : Int) = k := by
        have hk64 : k < 1000 := by omega
        rw [IntKind.wrap_i64]; omega
      have g7 : (0 : Int) ≤ (k : Int) := by omega
      clear bW a0 a1 r3 r4 r5
      go_region_held3 (fun w' => w'.cell? ⟨w.heap.size, 2, none⟩ = some (.slice (some ⟨b1, o1, none⟩) s.nw cw) ∧ w'.cell? ⟨w.heap.size, 0, none⟩ = some (.int .i64 s.fr) ∧ w'.cell? ⟨w.heap.size + 1, 2, none⟩ = some (.slice (some ⟨b2, o2, none⟩) t.nw cw') ∧ w'.cell? ⟨w.heap.size + 1, 0, none⟩ = some (.int .i64 t.fr) ∧ w'.cell? ⟨b1, o1 + k, none⟩ = some (.slice (A k) 36 (K k)) ∧ w'.cell? ⟨b2, o2 + k, none⟩ = some (.slice (A' k) 36 (K' k)))
        (first | exact HQ.out _ ((KW.out.drew.alloc _).alloc _) | exact HQ.out _ KW.out | exact HQ.out _ KW.out.drew)
        (first
          | (go_at_call 68; refine (apart_c _ _ _ _ _ _ _).mono ?_; rintro e w' ⟨rfl, rfl⟩))
      have bL : Boxed ((W3.alloc (.cells #[.slice (A k) 36 (K k)] 23)).alloc (.cells #[.slice (A' k) 36 (K' k)] 23)).drew w1.heap.size 22 (.slice none 0 0) := (HBW.out.alloc _).alloc _
      have bL1 : Boxed ((W3.alloc (.cells #[.slice (A k) 36 (K k)] 23)).alloc (.cells #[.slice (A' k) 36 (K' k)] 23)).drew (w1.heap.size + 1) 23 (.slice (A k) 36 (K k)) := by rw [← szW]; exact (Boxed.new W3 23 _).alloc _
      have bL2 : Boxed ((W3.alloc (.cells #[.slice (A k) 36 (K k)] 23)).alloc (.cells #[.slice (A' k) 36 (K' k)] 23)).drew (w1.heap.size + 1 + 1) 23 (.slice (A' k) 36 (K' k)) := by
        have := Boxed.new (W3.alloc (.cells #[.slice (A k) 36 (K k)] 23)) 23 (.slice (A' k) 36 (K' k))
        rw [World.size_alloc, szW] at this; exact this
      have kL : Kept w ((W3.alloc (.cells #[.slice (A k) 36 (K k)] 23)).alloc (.cells #[.slice (A' k) 36 (K' k)] 23)).drew := (((K1.out.trans KW.out).alloc _).alloc _).drew
      generalize ((W3.alloc (.cells #[.slice (A k) 36 (K k)] 23)).alloc (.cells #[.slice (A' k) 36 (K' k)] 23)).drew = WL at bL bL1 bL2 kL ⊢
      have RA : RowI .u64 w (A k) 36 (s.Z k) := by have := (HA.out.rows k hkn).1; rw [HL1.out] at this; exact this
      have RB : RowI .u64 w (A' k) 36 (t.Z k) := by have := (HB.out.rows k hkm).1; rw [HL2.out] at this; exact this
      have hD : difAt s t k = dif (s.Z k) (t.Z k) 36 36 := by unfold difAt; rw [HL1.out, HL2.out]
      have hws := K1.out.size
      have HDf := Lib.hid hD
      clear hD
      go_wp2_with fail
      refine (wpIn_wide (n := 3)).1 ?_
      refine wpIn_rangeFunc_ownG rfl (by omega) (gf := 84) (lb := #[.pointer (some ⟨w1.heap.size + 1, 0, none⟩), .pointer (some ⟨w1.heap.size + 1 + 1, 0, none⟩)]) rfl trivial (enters_of Try.func84 (by kernel_rfl) rfl)
        (apart_stops Fence.wide 2 trivial rfl (by omega) w WL (w1.heap.size + 1) (w1.heap.size + 1 + 1) (A k) (A' k) 36 36 (K k) (K' k) (s.Z k) (t.Z k) RA RB kL bL1.cell bL2.cell) kpA_t (kpA_b kL.size bL1.lt bL2.lt) (Below.refl _ _) (fun _ => rfl)
        (fun pre W => (∃ v, Boxed W w1.heap.size 22 v ∧ W.ownsRow w.heap.size 3 1 v pre.length (pre.map (Value.int .i64)) ∧ True) ∧ (Boxed W (w1.heap.size + 1) 23 (.slice (A k) 36 (K k)) ∧ Boxed W (w1.heap.size + 1 + 1) 23 (.slice (A' k) 36 (K' k))) ∧ Below w.heap.size w W)
        (fun _ _ _ => False)
        (OwnFrom.and (Own.from (holdsRow_own w.heap.size w1.heap.size 22 3 1 (fun pre : List Int => pre.length) (fun pre : List Int => pre.map (Value.int .i64)) (fun _ _ => True)) _) (OwnFrom.and (OwnFrom.and (Own.from (boxed_own _ _ (fun _ => _)) _) (Own.from (boxed_own _ _ (fun _ => _)) _)) (ownFrom_below (Nat.le_refl _) kL.size)))
        (fun _ _ _ _ _ hs _ _ => hs)
        ⟨⟨_, bL, World.ownsRow_nil _ _ _ _, trivial⟩, ⟨bL1, bL2⟩, kL⟩
        (fun x => { tmps := #[Value.agg #[.int .i64 s.fr, .int .i64 s.up, .slice (some ⟨b1, o1, none⟩) s.nw cw, .slice at' s.nt ct, .slice ac s.nc cc], .agg #[.int .i64 t.fr, .int .i64 t.up, .slice (some ⟨b2, o2, none⟩) t.nw cw', .slice at'' t.nt ct', .slice ac' t.nc cc'], .int .i64 f, .pointer (some ⟨w.heap.size, 0, none⟩), .pointer (some ⟨w.heap.size + 1, 0, none⟩), undef, .slice none 0 0, .int .i64 0, .int .i64 0, .pointer (some ⟨w1.heap.size, 0, none⟩), .int .i64 x, .agg #[.int .i64 s.fr, .int .i64 s.up, .slice (some ⟨b1, o1, none⟩) s.nw cw, .slice at' s.nt ct, .slice ac s.nc cc], .agg #[.int .i64 t.fr, .int .i64 t.up, .slice (some ⟨b2, o2, none⟩) t.nw cw', .slice at'' t.nt ct', .slice ac' t.nc cc'], .int .i64 0, .int .i64 0, .bool false, undef, .int .i64 f, .pointer (some ⟨w.heap.size, 0, none⟩), .int .i64 s.fr, .pointer (some ⟨w.heap.size, 1, none⟩), .int .i64 s.up, .int .i64 (s.up - 1), .bool true, .bool false, .pointer (some ⟨w.heap.size, 2, none⟩), .slice (some ⟨b1, o1, none⟩) s.nw cw, .int .i64 f, .pointer (some ⟨w.heap.size, 0, none⟩), .int .i64 s.fr, .int .i64 k, .pointer (some ⟨b1, o1 + k, none⟩), .slice (A k) 36 (K k), .pointer (some ⟨w.heap.size + 1, 2, none⟩), .slice (some ⟨b2, o2, none⟩) t.nw cw', .int .i64 f, .pointer (some ⟨w.heap.size + 1, 0, none⟩), .int .i64 t.fr, .int .i64 k, .pointer (some ⟨b2, o2 + k, none⟩), .slice (A' k) 36 (K' k), .func (.func 84) #[] #[.pointer (some ⟨w1.heap.size + 1, 0, none⟩), .pointer (some ⟨w1.heap.size + 1 + 1, 0, none⟩)], .int .i64 x, undef, undef, undef, undef, undef], defers := [] }) ?assign ?body ?done ?stop
      case assign =>
        intro l x W K hK
        gi_wp2
        exact hK
      case body =>
        rintro l pre x W ⟨⟨v, hv, hrow, _⟩, ⟨hx1, hx2⟩, hB⟩ hlt
        have hc := hv.cell
        gi_wp2_with (gi_at_builtin; refine wpListIn_append_own _ rfl _ _ 22 rfl w.heap.size 3 i3 (.int .i64 0) 1 8 Try.underlying22 hi hz0 hz1 hz2 rfl (by decide) _ _ _ rfl (hrow.alloc _) ⟨W.heap.size, 0, none⟩ 1 1 [.int .i64 x] rfl rfl (cell_one_new _ _ _) (by simp [Value.oneCell']) (by simp [maxLen]; omega) (by omega) (by have := hB.size; simp; omega) ?_; intro v' w4 hown' hgrow _; obtain ⟨g', cap', rfl⟩ := ownsRow_succ hown'; obtain ⟨hv1, hv2, hr2, hk2, hb2⟩ := hv.appended (by decide) hrow hB.size hws hown' hgrow; have hc1 := hv1.cell; have hf1 := hv1.frozen; have hy1 := ((hx1.alloc _).kept hgrow (hx1.not_row (by decide) hrow)).other (B' := w1.heap.size) (by omega) (.slice (some ⟨g', 0, none⟩) (pre.length + 1) cap'); have hy2 := ((hx2.alloc _).kept hgrow (hx2.not_row (by decide) hrow)).other (B' := w1.heap.size) (by omega) (.slice (some ⟨g', 0, none⟩) (pre.length + 1) cap'))
        refine ⟨hk2.from _, ⟨hb2, ?_, ?_⟩, ⟨_, hv2, by simpa using hr2, trivial⟩, ⟨hy1, hy2⟩, hB.trans hb2⟩
        · exact (show _ = _ from hy1).trans (show _ = _ from hx1).symm
        · exact (show _ = _ from hy2).trans (show _ = _ from hx2).symm
      case done =>
        rintro D ys W hD2 rfl ⟨⟨v, hv, hrow, _⟩, _, hB⟩ hK
        have hc := hv.cell
        go_wp2
        refine ⟨by simp, .inl ⟨_, _, rfl, run_takeDeferred hK, ?_⟩⟩
        have hr3 := ownsRow_putObj hrow (.deferred none) hK rfl
        have hk3 : Kept w (W.putObj D (.deferred none)) := hB.trans (belowK_b (w := w) (Nat.le_refl _) W D _ _ (by have := kL.size; omega) hK rfl rfl)
        refine ⟨_, results_tmp2 rfl _ _ _, v, rfl, ?_, hk3⟩
        rw [HDf.out]
        exact Lst.of hr3 (by have := dif_len (s.Z k) (t.Z k) 36 36; omega) (dif_wf (by omega))
      case stop =>
        rintro D c pre W _ _ h _
        exact h.elim
    · have hE : wordsE s t f = 1 := by unfold wordsE; rw [if_neg (by omega), if_neg hin]
      have hL : wordsL s t f = [] := if_neg (by omega)
      rw [hE, hL]
      have bI : inB f s.fr (s.up - 1) = false := decide_eq_false hin
      have HA := Lib.hid hp
      have HB := Lib.hid hq
      have K2 : Hid (Kept w ((w.alloc (.cells #[Value.int .i64 s.fr, .int .i64 s.up, .slice p.aw s.nw p.cw, .slice p.at' s.nt p.ct, .slice p.ac s.nc p.cc] 56)).alloc (.cells #[Value.int .i64 t.fr, .int .i64 t.up, .slice q.aw t.nw q.cw, .slice q.at' t.nt q.ct, .slice q.ac t.nc q.cc] 56))) := ((Kept.refl w).alloc _).alloc _
      have HT := Lib.hid (two_new w p q s t)
      have hup : 0 ≤ s.up := by omega
      clear hp hq hE hL h0 hR1 hR2 e1 e2 hin r3 r4 r5
      go_enter Try.func24, Try.ntmps24
      go_wp2_with fail
      refine (pair_c _ p q s t (HA.out.kept K2.out) (HB.out.kept K2.out)).mono ?_
      rw [HP.out]
      rintro e w1 ⟨rfl, hk1⟩
      have K1 := Lib.hid (K2.out.trans hk1)
      have HT1 := Lib.hid (HT.out.kept hk1)
      have a0 := HT1.out.a0
      have a1 := HT1.out.a1
      clear hk1
      go_wp2_with (go_at_call 67; refine (sin_c _ _ _ _).mono ?_; rintro e w' ⟨rfl, rfl⟩)
      go_ret2
      exact ⟨_, rfl, Lst.nil _, K1.out⟩
  · have hE : wordsE s t f = pairE s t := if_pos h0
    have hL : wordsL s t f = [] := if_neg (by rw [hE]; exact h0)
    rw [hE, hL]
    have bE : (pairE s t != 0) = true := by simp [h0]
    have HA := Lib.hid hp
    have HB := Lib.hid hq
    have K2 : Hid (Kept w ((w.alloc (.cells #[Value.int .i64 s.fr, .int .i64 s.up, .slice p.aw s.nw p.cw, .slice p.at' s.nt p.ct, .slice p.ac s.nc p.cc] 56)).alloc (.cells #[Value.int .i64 t.fr, .int .i64 t.up, .slice q.aw t.nw q.cw, .slice q.at' t.nt q.ct, .slice q.ac t.nc q.cc] 56))) := ((Kept.refl w).alloc _).alloc _
    clear hp hq hE hL h0
    generalize hpe : pairE s t = pe at bE ⊢
    have HP := Lib.hid hpe
    clear hpe
    go_enter Try.func24, Try.ntmps24
    go_wp2_with fail
    refine (pair_c _ p q s t (HA.out.kept K2.out) (HB.out.kept K2.out)).mono ?_
    rw [HP.out]
    rintro e w1 ⟨rfl, hk1⟩
    have K1 := Lib.hid (K2.out.trans hk1)
    clear hk1
    go_wp2_with fail
    go_ret2
    exact ⟨_, rfl, Lst.nil _, K1.out⟩
end Go.Proofs.Ytcjadneamacilaa.C

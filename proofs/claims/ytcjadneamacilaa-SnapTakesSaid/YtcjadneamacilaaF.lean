/- The contract of machine.New. -/
import Derived.Test.YtcjadneamacilaaE
namespace Go.Proofs.Ytcjadneamacilaa.C
open Go.RowKit

structure Mc (w : World) (mb mm ms tb sb n cap : Nat) (Z : Nat → Nat → Int) (L : Nat → Fm) : Prop where
  m0 : w.cell? ⟨mb, 0, none⟩ = some (.pointer (some ⟨mm, 0, none⟩))
  m2 : w.cell? ⟨mb, 2, none⟩ = some (.pointer (some ⟨tb, 0, none⟩))
  m5 : ∃ a c, w.cell? ⟨mb, 5, none⟩ = some (.slice a 1 c)
  M : Mm w mm ms n Z
  T : Tb w tb sb n cap L
  d1 : mb ≠ ms
  d2 : mb ≠ sb
  d3 : ms ≠ sb
  d4 : ms ≠ tb
  d5 : mm ≠ sb

theorem Mc.kept {w w' : World} {mb mm ms tb sb n cap : Nat} {Z : Nat → Nat → Int} {L : Nat → Fm} (h : Mc w mb mm ms tb sb n cap Z L) (k : Kept w w') : Mc w' mb mm ms tb sb n cap Z L :=
  ⟨k.cell h.m0, k.cell h.m2, by obtain ⟨a, c, e⟩ := h.m5; exact ⟨a, c, k.cell e⟩, h.M.kept k, h.T.kept k, h.d1, h.d2, h.d3, h.d4, h.d5⟩

/-- While it is made: the config's box, the variable's, the machine's block. -/
structure Ma (w wr : World) (P mb n : Nat) (x : Nat → Value) : Prop where
  k : Kept w wr
  b0 : wr.cell? ⟨w.heap.size, 0, none⟩ = some (.int .i64 n)
  b1 : wr.cell? ⟨w.heap.size, 1, none⟩ = some (.int .i64 1)
  b3 : wr.cell? ⟨w.heap.size, 3, none⟩ = some (.int .i64 0)
  p : wr.cell? ⟨P, 0, none⟩ = some (.pointer (some ⟨mb, 0, none⟩))
  f : ∀ i, i < 6 → wr.cell? ⟨mb, i, none⟩ = some (x i)
  fz : ∀ o, wr.frozen? ⟨mb, o, none⟩ = false
  h1 : w.heap.size < P
  h2 : w.heap.size < mb
  h3 : P ≠ mb

def updV (x : Nat → Value) (i : Nat) (v : Value) : Nat → Value := fun j => if j = i then v else x j
section
variable {w wr w' : World} {P mb n : Nat} {x : Nat → Value}
theorem Ma.s (h : Ma w wr P mb n x) : wr.cell? ⟨P, 0, none⟩ = some (.pointer (some ⟨mb, 0, none⟩)) ∧ wr.cell? ⟨w.heap.size, 0, none⟩ = some (.int .i64 n) ∧ wr.cell? ⟨w.heap.size, 1, none⟩ = some (.int .i64 1) :=
  ⟨h.p, h.b0, h.b1⟩
theorem Ma.lt (h : Ma w wr P mb n x) : mb < wr.heap.size := World.block_lt_of_cell? wr _ (h.f 0 (by omega))
theorem Ma.ltP (h : Ma w wr P mb n x) : P < wr.heap.size := World.block_lt_of_cell? wr _ h.p
theorem Ma.kept (h : Ma w wr P mb n x) (k : Kept wr w') : Ma w w' P mb n x :=
  ⟨h.k.trans k, k.cell h.b0, k.cell h.b1, k.cell h.b3, k.cell h.p, fun i hi => k.cell (h.f i hi), fun o => (k.frozen h.lt).trans (h.fz o), h.h1, h.h2, h.h3⟩
theorem Ma.set (h : Ma w wr P mb n x) (i : Nat) (v : Value) : Ma w (wr.setCell ⟨mb, i, none⟩ v) P mb n (updV x i v) := by
  refine ⟨h.k.setCell (by have := h.h2; simp; omega) _, ?_, ?_, ?_, ?_, ?_, ?_, h.h1, h.h2, h.h3⟩
  · rw [World.cell?_setCell_other _ _ _ _ (addr_ne (.inl (by have := h.h2; omega)))]; exact h.b0
  · rw [World.cell?_setCell_other _ _ _ _ (addr_ne (.inl (by have := h.h2; omega)))]; exact h.b1
  · rw [World.cell?_setCell_other _ _ _ _ (addr_ne (.inl (by have := h.h2; omega)))]; exact h.b3
  · rw [World.cell?_setCell_other _ _ _ _ (addr_ne (.inl h.h3.symm))]; exact h.p
  · intro j hj
    by_cases e : j = i
    · subst e
      rw [World.cell?_setCell_same _ _ _ (h.f j hj)]; simp [updV]
    · rw [World.cell?_setCell_other _ _ _ _ (addr_ne (.inr (fun e' => e e'.symm))), h.f j hj]; simp [updV, e]
  · intro o; rw [World.frozen?_setCell]; exact h.fz o
end

set_option maxRecDepth 100000 in
set_option maxHeartbeats 2000000 in
theorem add_c (w wr : World) (P mb n : Nat) (x : Nat → Value) (h : Ma w wr P mb n x) (h5 : x 5 = .slice none 0 0) :
    Calls Try.prog 40 #[.pointer (some ⟨w.heap.size, 0, none⟩), .pointer (some ⟨P, 0, none⟩)] wr fun e w' => ∃ a c, e = .returned (.tuple #[]) ∧ Ma w w' P mb n (updV x 5 (.slice a 1 c)) ∧ wr.grownBy w' (some mb) := by
  have infoE : (Try.prog.info? 98).map (fun i => (i.zero, i.size, i.bytes)) = some (some (.pointer none), 1, 8) := by kernel_rfl
  obtain ⟨i0, hi, hz0, hz1, hz2⟩ := info_parts infoE
  clear infoE
  have b3 := h.b3
  have HA := Lib.hid h
  have HX := Lib.hid h5
  clear h h5
  go_enter Try.func40, Try.ntmps40
  go_wp2_with fail
  refine (tlbnew_c _).mono ?_
  rintro e w1 ⟨tb, rfl, hk1⟩
  have HA1 := Lib.hid (HA.out.kept hk1)
  have p1 := HA1.out.p
  have f1 := HA1.out.f 5 (by omega)
  rw [HX.out] at f1
  have lt1 := HA1.out.lt
  have ltP1 := HA1.out.ltP
  go_wp2_with fail
  go_region_law (first
    | (refine step_append_lies _ (by rfl) _ _ _ (by rfl) (mb + 1) 98 i0 (.pointer none) 1 8 Try.underlying64 hi hz0 hz1 hz2 rfl (by decide) (.slice none 0 0) 0 [] (by rfl) (World.ownsRow_nil _ _ _ _) ⟨w2.heap.size + 1, 0, none⟩ 1 1 [.pointer (some ⟨w2.heap.size, 0, none⟩)] (by rfl) (by rfl) HN.out (by simp [Value.oneCell']) (by omega) (by simp [maxLen]) (by omega) (by simp; omega) (w2.heap.size + 2) (by simp) ?_
       intro g cap w3 hown3 hgrow hat hlt3
       have HG := Lib.hid hgrow
       have hne : some mb ≠ (Value.slice none 0 0).ownBlock := by simp [Value.ownBlock]
       have hk3 : Kept w2 w3 := Below.grown (((Kept.refl w2).alloc _).alloc _) hgrow (by simp; omega) (fun k hk => by simp [Value.ownBlock] at hk)
       have HA3 := Lib.hid (HA2.out.kept hk3)
       have f3 := HA3.out.f 5 (by omega)
       have z3 := HA3.out.fz 5
       have p3 := HA3.out.p
       have HK3 := Lib.hid hk3
       clear hown3 hgrow hat hlt3 hne hk3)
    | (go_simp; go_at_call 42; refine (regsnew_c _).mono ?_; rintro e w2 ⟨rb, rfl, hk2⟩
       have hk2' : Kept w1 w2 := ((Kept.refl w1).drew).trans hk2
       have HA2 := Lib.hid (HA1.out.kept hk2')
       have HK2 := Lib.hid hk2'
       have p2 := HA2.out.p
       have f2 := HA2.out.f 5 (by omega)
       rw [HX.out] at f2
       have hlt2 := HA2.out.lt
       have hltP2 := HA2.out.ltP
       have HN : Hid (∀ j u, [Value.pointer (some ⟨w2.heap.size, 0, none⟩)][j]? = some u → ((w2.alloc (.cells #[.pointer (some ⟨rb, 0, none⟩), .pointer (some ⟨tb, 0, none⟩), .int .i64 (-1)] 102)).alloc (.cells #[.pointer (some ⟨w2.heap.size, 0, none⟩)] 98)).cell? ((⟨w2.heap.size + 1, 0, none⟩ : Addr).add j) = some u) := by
         intro j u hj
         have h := cells_new (w2.alloc (.cells #[.pointer (some ⟨rb, 0, none⟩), .pointer (some ⟨tb, 0, none⟩), .int .i64 (-1)] 102)) _ 98 j u hj
         simpa using h
       clear hk2 hk2'))
  all_goals
    go_wp2_with fail
    go_end0
    exact ⟨_, _, rfl, HA3.out.set 5 _, (grownBy_kept (hk1.trans (HK2.out.trans HK3.out)) _).trans (grownBy_setCell w3 ⟨mb, 5, none⟩ _)⟩

set_option maxRecDepth 100000 in
set_option maxHeartbeats 2000000 in
theorem mnew_c (w : World) (n : Nat) (hp : 0 < n) (hn : n ≤ 64) : Calls Try.prog 7 #[.agg #[.int .i64 n, .int .i64 1, .int .i64 0, .int .i64 0]] w fun e w' =>
    ∃ mb mm ms tb sb cap, e = .returned (.tuple #[.pointer (some ⟨mb, 0, none⟩), .int .i64 0]) ∧ Mc w' mb mm ms tb sb n cap zeroZ (fun _ => fresh) ∧ w.heap.size ≤ mb ∧ w.heap.size ≤ ms ∧ w.heap.size ≤ sb ∧ Kept w w' := by
  go_enter Try.func7, Try.ntmps7
  go_wp2_with fail
  refine (check_c _ n hp hn).mono ?_
  rintro e w1 ⟨rfl, hk1⟩
  have hk0 := ((Kept.refl w).alloc (.cells #[.int .i64 n, .int .i64 1, .int .i64 0, .int .i64 0] 26)).trans hk1
  have b0 := hk1.cell (p := ⟨w.heap.size, 0, none⟩) (v := .int .i64 n) (by simp)
  have b1 := hk1.cell (p := ⟨w.heap.size, 1, none⟩) (v := .int .i64 1) (by simp)
  have b3 := hk1.cell (p := ⟨w.heap.size, 3, none⟩) (v := .int .i64 0) (by simp)
  have HB := Lib.hid (And.intro hk0 (And.intro b0 (And.intro b1 b3)))
  clear hk1 hk0 b0 b1 b3
  go_wp2_with fail
  refine (livenew_c _).mono ?_
  rintro e w2 ⟨lb, rfl, hk2⟩
  go_wp2_with fail
  refine (hwnew_c _).mono ?_
  rintro e w3 ⟨hb, rfl, hk3⟩
  have hk23 := hk2.trans hk3
  have HK := Lib.hid (And.intro hk23 (Nat.le_trans hk2.size hk3.size))
  clear hk2 hk3 hk23
  go_wp2_with fail
  generalize hW3 : (w3.alloc _).alloc _ = W3
  have HA0 : Hid (Ma w W3 (w3.heap.size + 1) w3.heap.size n (fun i => if i = 5 then .slice none 0 0 else if i = 3 then .pointer (some ⟨lb, 0, none⟩) else if i = 4 then .pointer (some ⟨hb, 0, none⟩) else .pointer none)) := by
    obtain ⟨hk1, b0, b1, b3⟩ := HB.out
    obtain ⟨hk3, hs⟩ := HK.out
    have hsz := HB.out.1.size
    have hsw : w.heap.size < w3.heap.size := Nat.lt_of_lt_of_le (World.block_lt_of_cell? w1 _ b0) hs
    have hk : Kept w1 W3 := by rw [← hW3]; exact (hk3.alloc _).alloc _
    refine ⟨hk1.trans hk, hk.cell b0, hk.cell b1, hk.cell b3, ?_, ?_, ?_, by omega, hsw, by omega⟩
    · rw [← hW3]; simp
    · intro i hi
      rw [← hW3, World.cell?_alloc_lt _ _ _ (by simp), World.cell?_alloc_new]
      match i, hi with
      | 0, _ => rfl
      | 1, _ => rfl
      | 2, _ => rfl
      | 3, _ => rfl
      | 4, _ => rfl
      | 5, _ => rfl
    · intro o
      rw [← hW3, frozen?_alloc_cells, frozen?_alloc_cells]
      simp [World.frozen?]
  clear hW3 HB HK
  have HA := Lib.hid (And.intro HA0.out True.intro)
  clear HA0
  go_region_held3 (fun w' => w'.cell? ⟨w3.heap.size + 1, 0, none⟩ = some (.pointer (some ⟨w3.heap.size, 0, none⟩)) ∧ w'.cell? ⟨w.heap.size, 0, none⟩ = some (.int .i64 n) ∧ w'.cell? ⟨w.heap.size, 1, none⟩ = some (.int .i64 1))
    (first | exact (HA4.out.1.set 0 _).s | exact HA4.out.1.s | exact HA.out.1.s | exact (HA.out.1.kept (Kept.refl _).drew).s)
    (first
      | (go_at_call 37; refine (memnew_c _ n hp hn).mono ?_; rintro e w4 ⟨rfl, hM4, hk4⟩; have HA4 := Lib.hid (And.intro ((HA.out.1.kept (Kept.refl _).drew).kept hk4) (And.intro hM4 hk4)); have hst : w4.cell? ⟨w3.heap.size, 0, none⟩ = some (.pointer none) := HA4.out.1.f 0 (by omega); have hfz := HA4.out.1.fz 0; clear hM4 hk4))
  have hA5 := HA4.out.1.set 0 (.pointer (some ⟨W3.heap.size + 1, 0, none⟩))
  have hM5 : Mm (w4.setCell ⟨w3.heap.size, 0, none⟩ (.pointer (some ⟨W3.heap.size + 1, 0, none⟩))) (W3.heap.size + 1) W3.heap.size n zeroZ := by
    have := HA.out.1.lt
    refine HA4.out.2.1.grown (grownBy_setCell w4 ⟨w3.heap.size, 0, none⟩ _) ?_ ?_
    · simp; omega
    · simp; omega
  generalize w4.setCell ⟨w3.heap.size, 0, none⟩ (.pointer (some ⟨W3.heap.size + 1, 0, none⟩)) = W5 at hA5 hM5 ⊢
  have HA5 := Lib.hid (And.intro hA5 hM5)
  have hmw := HA.out.1.lt
  have hww := HA.out.1.k.size
  clear hA5 hM5 HA4 HA
  go_wp2_with fail
  go_region_held3 (fun w' => w'.cell? ⟨w3.heap.size + 1, 0, none⟩ = some (.pointer (some ⟨w3.heap.size, 0, none⟩)) ∧ w'.cell? ⟨w.heap.size, 0, none⟩ = some (.int .i64 n) ∧ w'.cell? ⟨w.heap.size, 1, none⟩ = some (.int .i64 1))
    (first | exact (HA6.out.1.set 1 _).s | exact HA6.out.1.s | exact HA5.out.1.s | exact (HA5.out.1.kept (Kept.refl _).drew).s)
    (first
      | (go_at_call 38; refine (clocknew_c _).mono ?_; rintro e w6 ⟨cb, rfl, hk6⟩; have HA6 := Lib.hid (And.intro ((HA5.out.1.kept (Kept.refl _).drew).kept hk6) ((HA5.out.2.kept (Kept.refl _).drew).kept hk6)); have hst : w6.cell? ⟨w3.heap.size, 1, none⟩ = some (.pointer none) := HA6.out.1.f 1 (by omega); have hfz := HA6.out.1.fz 1; clear hk6))
  have hA7 := HA6.out.1.set 1 (.pointer (some ⟨cb, 0, none⟩))
  have hM7 : Mm (w6.setCell ⟨w3.heap.size, 1, none⟩ (.pointer (some ⟨cb, 0, none⟩))) (W3.heap.size + 1) W3.heap.size n zeroZ := by
    refine HA6.out.2.grown (grownBy_setCell w6 ⟨w3.heap.size, 1, none⟩ _) ?_ ?_
    · simp; omega
    · simp; omega
  generalize w6.setCell ⟨w3.heap.size, 1, none⟩ (.pointer (some ⟨cb, 0, none⟩)) = W7 at hA7 hM7 ⊢
  have HA7 := Lib.hid (And.intro hA7 hM7)
  have hm7 := hA7.lt
  have hM7' := hM7.ltt
  have hM7'' := hM7.lt
  have hs7 := hA7.k.size
  clear hA7 hM7 HA6 HA5 hst hfz
  go_wp2_with fail
  go_region_held3 (fun w' => w'.cell? ⟨w3.heap.size + 1, 0, none⟩ = some (.pointer (some ⟨w3.heap.size, 0, none⟩)) ∧ w'.cell? ⟨w.heap.size, 0, none⟩ = some (.int .i64 n) ∧ w'.cell? ⟨w.heap.size, 1, none⟩ = some (.int .i64 1))
    (first | exact (HA8.out.1.set 2 _).s | exact HA8.out.1.s | exact HA7.out.1.s | exact (HA7.out.1.kept (Kept.refl _).drew).s)
    (first
      | (go_at_call 39; refine (new_c _ n hp hn).mono ?_; rintro e w8 ⟨sb, cap, rfl, hT8, hsb, hk8⟩; have HA8 := Lib.hid (And.intro ((HA7.out.1.kept (Kept.refl _).drew).kept hk8) (And.intro ((HA7.out.2.kept (Kept.refl _).drew).kept hk8) hT8)); have hst : w8.cell? ⟨w3.heap.size, 2, none⟩ = some (.pointer none) := HA8.out.1.f 2 (by omega); have hfz := HA8.out.1.fz 2; have hs8 : W7.heap.size ≤ sb := hsb; clear hk8 hT8 hsb))
  have hA9 := HA8.out.1.set 2 (.pointer (some ⟨W7.heap.size, 0, none⟩))
  have hM9 : Mm (w8.setCell ⟨w3.heap.size, 2, none⟩ (.pointer (some ⟨W7.heap.size, 0, none⟩))) (W3.heap.size + 1) W3.heap.size n zeroZ := by
    refine HA8.out.2.1.grown (grownBy_setCell w8 ⟨w3.heap.size, 2, none⟩ _) ?_ ?_
    · simp; omega
    · simp; omega
  have hT9 : Tb (w8.setCell ⟨w3.heap.size, 2, none⟩ (.pointer (some ⟨W7.heap.size, 0, none⟩))) W7.heap.size sb n cap (fun _ => fresh) := by
    refine HA8.out.2.2.grown (grownBy_setCell w8 ⟨w3.heap.size, 2, none⟩ _) ?_ ?_
    · simp; omega
    · simp; omega
  generalize w8.setCell ⟨w3.heap.size, 2, none⟩ (.pointer (some ⟨W7.heap.size, 0, none⟩)) = W9 at hA9 hM9 hT9 ⊢
  have HA9 := Lib.hid (And.intro hA9 (And.intro hM9 hT9))
  have b1 := hA9.b1
  clear hA9 hM9 hT9 HA8 HA7 hst hfz
  go_wp2_with fail
  refine wp_loop_rounds 2 ?_
  rw [rounds_succ]
  go_wp2_with fail
  refine (add_c w W9 _ _ n _ HA9.out.1 rfl).mono ?_
  rintro e W10 ⟨a, c, rfl, hA10, hg10⟩
  have hM10 := HA9.out.2.1.grown hg10 (by simp; omega) (by simp; omega)
  have hT10 := HA9.out.2.2.grown hg10 (by simp; omega) (by simp; omega)
  have hp := hA10.p
  have HA10 := Lib.hid (And.intro hA10 (And.intro hM10 hT10))
  clear hA10 hM10 hT10 hg10
  go_wp2_with fail
  rw [rounds_succ]
  go_wp2_with fail
  go_ret2
  obtain ⟨hA, hM, hT⟩ := HA10.out
  exact ⟨w3.heap.size, W3.heap.size + 1, W3.heap.size, W7.heap.size, sb, cap, rfl, ⟨hA.f 0 (by omega), hA.f 2 (by omega), ⟨a, c, hA.f 5 (by omega)⟩, hM, hT, by omega, by omega, by omega, by omega, by omega⟩, by have := hA.h2; omega, by omega, by omega, hA.k⟩
end Go.Proofs.Ytcjadneamacilaa.C

/- The machine's accessors; snap.Take. -/
import Derived.Test.YtcjadneamacilaaF
import Derived.Test.YtcjadneamacilaaG
namespace Go.Proofs.Ytcjadneamacilaa.C
open Go.RowKit

section
variable {mb mm ms tb sb n cap : Nat} {Zm : Nat → Nat → Int} {Lm : Nat → Fm}
theorem mnone_c (w : World) (h : Mc w mb mm ms tb sb n cap Zm Lm) : Calls Try.prog 51 #[.pointer (some ⟨mb, 0, none⟩)] w fun e w' => e = .returned (.bool false) ∧ w = w' := by
  have h0 := h.m0
  clear h
  go_enter Try.func51, Try.ntmps51
  go_wp2
  go_ret
  exact ⟨rfl, rfl⟩
theorem mMem_c (w : World) (h : Mc w mb mm ms tb sb n cap Zm Lm) : Calls Try.prog 9 #[.pointer (some ⟨mb, 0, none⟩)] w fun e w' => e = .returned (.pointer (some ⟨mm, 0, none⟩)) ∧ w = w' := by
  have H := Lib.hid h
  have h0 := h.m0
  clear h
  go_enter Try.func9, Try.ntmps9
  go_wp2_with (go_at_call 51; refine (mnone_c _ H.out).mono ?_; rintro e w' ⟨rfl, rfl⟩)
  go_ret
  exact ⟨rfl, rfl⟩
theorem mTyp_c (w : World) (h : Mc w mb mm ms tb sb n cap Zm Lm) : Calls Try.prog 12 #[.pointer (some ⟨mb, 0, none⟩)] w fun e w' => e = .returned (.pointer (some ⟨tb, 0, none⟩)) ∧ w = w' := by
  have H := Lib.hid h
  have h0 := h.m2
  clear h
  go_enter Try.func12, Try.ntmps12
  go_wp2_with (go_at_call 51; refine (mnone_c _ H.out).mono ?_; rintro e w' ⟨rfl, rfl⟩)
  go_ret
  exact ⟨rfl, rfl⟩
theorem mCores_c (w : World) (h : Mc w mb mm ms tb sb n cap Zm Lm) : Calls Try.prog 56 #[.pointer (some ⟨mb, 0, none⟩)] w fun e w' => e = .returned (.int .i64 1) ∧ w = w' := by
  have H := Lib.hid h
  obtain ⟨a, c, h0⟩ := h.m5
  clear h
  go_enter Try.func56, Try.ntmps56
  go_wp2_with (go_at_call 51; refine (mnone_c _ H.out).mono ?_; rintro e w' ⟨rfl, rfl⟩)
  go_ret
  exact ⟨rfl, rfl⟩
end

/-- While a snap is taken: its block, its three rows, the frames' words. -/
structure Rw (w : World) (S : Nat) (fr up : Int) (j2 j3 j4 : Nat) (v2 v3 v4 : Value) (G Q : Nat → Nat) (Z : Nat → Nat → Int) (T C : Nat → Int) : Prop where
  s0 : w.cell? ⟨S, 0, none⟩ = some (.int .i64 fr)
  s1 : w.cell? ⟨S, 1, none⟩ = some (.int .i64 up)
  s2 : w.cell? ⟨S, 2, none⟩ = some v2
  s3 : w.cell? ⟨S, 3, none⟩ = some v3
  s4 : w.cell? ⟨S, 4, none⟩ = some v4
  fz : ∀ o, w.frozen? ⟨S, o, none⟩ = false
  r2 : w.ownsRow (S + 1) 23 1 v2 j2 ((List.range j2).map fun i => .slice (some ⟨G i, 0, none⟩) 36 (Q i))
  r3 : w.ownsRow (S + 1) 3 1 v3 j3 ((List.range j3).map fun i => .int .i64 (T i))
  r4 : w.ownsRow (S + 1) 3 1 v4 j4 ((List.range j4).map fun i => .int .i64 (C i))
  rows : ∀ i, i < j2 → S < G i ∧ ∀ k, k < 36 → w.cell? ⟨G i, k, none⟩ = some (.int .u64 (Z i k))
  g : ∀ i, i < j2 → v2.ownBlock ≠ some (G i) ∧ v3.ownBlock ≠ some (G i) ∧ v4.ownBlock ≠ some (G i)
  n2 : ∀ k, v2.ownBlock = some k → v3.ownBlock ≠ some k ∧ v4.ownBlock ≠ some k
  n3 : ∀ k, v3.ownBlock = some k → v4.ownBlock ≠ some k

theorem range_snoc {α : Type} (f : Nat → α) (j : Nat) : (List.range (j + 1)).map f = (List.range j).map f ++ [f j] := by
  rw [List.range_succ, List.map_append]; rfl
def ext {α : Type} (G : Nat → α) (j : Nat) (x : α) : Nat → α := fun i => if i = j then x else G i
theorem ext_map {α β : Type} (f : α → β) (G : Nat → α) (j : Nat) (x : α) : (List.range j).map (fun i => f (ext G j x i)) = (List.range j).map fun i => f (G i) := by
  apply List.map_congr_left
  intro i hi
  have : i ≠ j := by have := List.mem_range.1 hi; omega
  simp [ext, this]
theorem ext_at {α : Type} (G : Nat → α) (j : Nat) (x : α) : ext G j x j = x := by simp [ext]
theorem ext_lt {α : Type} (G : Nat → α) (j : Nat) (x : α) (i : Nat) (h : i < j) : ext G j x i = G i := by
  have : i ≠ j := by omega
  simp [ext, this]

section
variable {w w' : World} {S j2 j3 j4 : Nat} {fr up : Int} {v2 v3 v4 : Value} {G Q : Nat → Nat} {Z : Nat → Nat → Int} {T C : Nat → Int}
theorem Rw.lt (h : Rw w S fr up j2 j3 j4 v2 v3 v4 G Q Z T C) : S < w.heap.size := World.block_lt_of_cell? w _ h.s0
theorem own_kept {w w' : World} {base : Nat} {e : TypeId} {size : Nat} {v : Value} {n : Nat} {xs : List Value} (h : w.ownsRow base e size v n xs) (k : Kept w w') : w'.ownsRow base e size v n xs :=
  h.kept (grownBy_kept k none) (by cases hv : v.ownBlock <;> simp)
theorem Rw.kept (h : Rw w S fr up j2 j3 j4 v2 v3 v4 G Q Z T C) (k : Kept w w') : Rw w' S fr up j2 j3 j4 v2 v3 v4 G Q Z T C :=
  ⟨k.cell h.s0, k.cell h.s1, k.cell h.s2, k.cell h.s3, k.cell h.s4, fun o => (k.frozen h.lt).trans (h.fz o), own_kept h.r2 k, own_kept h.r3 k, own_kept h.r4 k,
    fun i hi => ⟨(h.rows i hi).1, fun c hc => k.cell ((h.rows i hi).2 c hc)⟩, h.g, h.n2, h.n3⟩
theorem Rw.glt (h : Rw w S fr up j2 j3 j4 v2 v3 v4 G Q Z T C) (i : Nat) (hi : i < j2) : G i < w.heap.size := World.block_lt_of_cell? w _ ((h.rows i hi).2 0 (by omega))

theorem Rw.push2 (h : Rw w S fr up j2 j3 j4 v2 v3 v4 G Q Z T C) (x y : Nat) (z : Nat → Int) (hx : S < x) (hxl : x < w.heap.size) (hxz : ∀ k, k < 36 → w.cell? ⟨x, k, none⟩ = some (.int .u64 (z k))) (hx2 : v2.ownBlock ≠ some x) (hx3 : v3.ownBlock ≠ some x) (hx4 : v4.ownBlock ≠ some x) (b cp : Nat)
    (ho : w'.ownsRow (S + 1) 23 1 (.slice (some ⟨b, 0, none⟩) (j2 + 1) cp) (j2 + 1) (((List.range j2).map fun i => .slice (some ⟨G i, 0, none⟩) 36 (Q i)) ++ [.slice (some ⟨x, 0, none⟩) 36 y])) (hg : w.grownBy w' v2.ownBlock) (hat : v2.ownBlock = some b ∨ w.heap.size ≤ b) :
    Rw (w'.setCell ⟨S, 2, none⟩ (.slice (some ⟨b, 0, none⟩) (j2 + 1) cp)) S fr up (j2 + 1) j3 j4 (.slice (some ⟨b, 0, none⟩) (j2 + 1) cp) v3 v4 (ext G j2 x) (ext Q j2 y) (ext Z j2 z) T C := by
  have hS : some S ≠ v2.ownBlock := fun e => by have := (h.r2.lt S e.symm).1; omega
  have hfz : ∀ o, w'.frozen? ⟨S, o, none⟩ = false := fun o => (World.frozen?_of_block (a := ⟨S, o, none⟩) (hg.block S h.lt hS)).trans (h.fz o)
  have ne3 : v3.ownBlock = none ∨ v3.ownBlock ≠ v2.ownBlock := by
    cases hq : v3.ownBlock with
    | none => exact .inl rfl
    | some k => exact .inr (fun e => (show _ from (fun hk : v2.ownBlock = some k => (h.n2 k hk).1)) e.symm hq)
  have nb3 : v3.ownBlock ≠ some b := by
    intro e
    rcases hat with h1 | h1
    · rcases ne3 with h2 | h2
      · rw [h2] at e; cases e
      · exact h2 (e.trans h1.symm)
    · have := (h.r3.lt b e).2; omega
  have ne4 : v4.ownBlock = none ∨ v4.ownBlock ≠ v2.ownBlock := by
    cases hq : v4.ownBlock with
    | none => exact .inl rfl
    | some k => exact .inr (fun e => (show _ from (fun hk : v2.ownBlock = some k => (h.n2 k hk).2)) e.symm hq)
  have nb4 : v4.ownBlock ≠ some b := by
    intro e
    rcases hat with h1 | h1
    · rcases ne4 with h2 | h2
      · rw [h2] at e; cases e
      · exact h2 (e.trans h1.symm)
    · have := (h.r4.lt b e).2; omega
  have gb : ∀ i, i < j2 → b ≠ G i := by
    intro i hi e
    rcases hat with h1 | h1
    · exact (h.g i hi).1 (h1.trans (by rw [e]))
    · have := h.glt i hi; omega
  have cellS : ∀ q v, q ≠ 2 → w.cell? ⟨S, q, none⟩ = some v → (w'.setCell ⟨S, 2, none⟩ (.slice (some ⟨b, 0, none⟩) (j2 + 1) cp)).cell? ⟨S, q, none⟩ = some v := by
    intro q v hq hc
    rw [World.cell?_setCell_other _ _ _ _ (addr_ne (.inr (fun e => hq e.symm)))]
    exact hg.cell hc hS
  have rowS : ∀ i k v, i < j2 → w.cell? ⟨G i, k, none⟩ = some v → (w'.setCell ⟨S, 2, none⟩ (.slice (some ⟨b, 0, none⟩) (j2 + 1) cp)).cell? ⟨G i, k, none⟩ = some v := by
    intro i k v hi hc
    rw [World.cell?_setCell_other _ _ _ _ (addr_ne (.inl (by have := (h.rows i hi).1; omega)))]
    exact hg.cell hc (fun e => (h.g i hi).1 e.symm)
  refine ⟨cellS 0 _ (by omega) h.s0, cellS 1 _ (by omega) h.s1, World.cell?_setCell_same _ _ _ (hg.cell h.s2 hS), cellS 3 _ (by omega) h.s3, cellS 4 _ (by omega) h.s4, fun o => by rw [World.frozen?_setCell]; exact hfz o, ?_, ownsRow_setCell_below (h.r3.kept hg ne3) (by simp) _, ownsRow_setCell_below (h.r4.kept hg ne4) (by simp) _, ?_, ?_, ?_, ?_⟩
  · rw [range_snoc, ext_at, ext_at]
    have hm : (List.range j2).map (fun i => Value.slice (some ⟨ext G j2 x i, 0, none⟩) 36 (ext Q j2 y i)) = (List.range j2).map (fun i => Value.slice (some ⟨G i, 0, none⟩) 36 (Q i)) := by
      apply List.map_congr_left
      intro i hi
      rw [ext_lt _ _ _ _ (List.mem_range.1 hi), ext_lt _ _ _ _ (List.mem_range.1 hi)]
    rw [hm]
    exact ownsRow_setCell_below ho (by simp) _
  · intro i hi
    by_cases e : i = j2
    · subst e
      rw [ext_at, ext_at]
      refine ⟨hx, fun k hk => ?_⟩
      rw [World.cell?_setCell_other _ _ _ _ (addr_ne (.inl (by omega)))]
      exact hg.cell (hxz k hk) (fun e => hx2 e.symm)
    · rw [ext_lt _ _ _ _ (by omega), ext_lt _ _ _ _ (by omega)]
      exact ⟨(h.rows i (by omega)).1, fun k hk => rowS i k _ (by omega) ((h.rows i (by omega)).2 k hk)⟩
  · intro i hi
    by_cases e : i = j2
    · subst e
      rw [ext_at]
      refine ⟨fun e => ?_, hx3, hx4⟩
      injection e with e
      have e : b = x := e
      rcases hat with h1 | h1
      · exact hx2 (h1.trans (by rw [e]))
      · omega
    · rw [ext_lt _ _ _ _ (by omega)]
      exact ⟨fun e => gb i (by omega) (by injection e), (h.g i (by omega)).2.1, (h.g i (by omega)).2.2⟩
  · intro k hk
    injection hk with hk
    have hk : b = k := hk
    subst hk
    exact ⟨nb3, nb4⟩
  · exact h.n3

theorem Rw.push3 (h : Rw w S fr up j2 j3 j4 v2 v3 v4 G Q Z T C) (x : Int) (b cp : Nat)
    (ho : w'.ownsRow (S + 1) 3 1 (.slice (some ⟨b, 0, none⟩) (j3 + 1) cp) (j3 + 1) (((List.range j3).map fun i => .int .i64 (T i)) ++ [.int .i64 x])) (hg : w.grownBy w' v3.ownBlock) (hat : v3.ownBlock = some b ∨ w.heap.size ≤ b) :
    Rw (w'.setCell ⟨S, 3, none⟩ (.slice (some ⟨b, 0, none⟩) (j3 + 1) cp)) S fr up j2 (j3 + 1) j4 v2 (.slice (some ⟨b, 0, none⟩) (j3 + 1) cp) v4 G Q Z (ext T j3 x) C := by
  have hS : some S ≠ v3.ownBlock := fun e => by have := (h.r3.lt S e.symm).1; omega
  have hfz : ∀ o, w'.frozen? ⟨S, o, none⟩ = false := fun o => (World.frozen?_of_block (a := ⟨S, o, none⟩) (hg.block S h.lt hS)).trans (h.fz o)
  have ne2 : v2.ownBlock = none ∨ v2.ownBlock ≠ v3.ownBlock := by
    cases hq : v2.ownBlock with
    | none => exact .inl rfl
    | some k => exact .inr (fun e => (show _ from (fun hk : v2.ownBlock = some k => (h.n2 k hk).1)) hq e.symm)
  have nb2 : v2.ownBlock ≠ some b := by
    intro e
    rcases hat with h1 | h1
    · rcases ne2 with h2 | h2
      · rw [h2] at e; cases e
      · exact h2 (e.trans h1.symm)
    · have := (h.r2.lt b e).2; omega
  have ne4 : v4.ownBlock = none ∨ v4.ownBlock ≠ v3.ownBlock := by
    cases hq : v4.ownBlock with
    | none => exact .inl rfl
    | some k => exact .inr (fun e => (show _ from (fun hk : v3.ownBlock = some k => h.n3 k hk)) e.symm hq)
  have nb4 : v4.ownBlock ≠ some b := by
    intro e
    rcases hat with h1 | h1
    · rcases ne4 with h2 | h2
      · rw [h2] at e; cases e
      · exact h2 (e.trans h1.symm)
    · have := (h.r4.lt b e).2; omega
  have gb : ∀ i, i < j2 → b ≠ G i := by
    intro i hi e
    rcases hat with h1 | h1
    · exact (h.g i hi).2.1 (h1.trans (by rw [e]))
    · have := h.glt i hi; omega
  have cellS : ∀ q v, q ≠ 3 → w.cell? ⟨S, q, none⟩ = some v → (w'.setCell ⟨S, 3, none⟩ (.slice (some ⟨b, 0, none⟩) (j3 + 1) cp)).cell? ⟨S, q, none⟩ = some v := by
    intro q v hq hc
    rw [World.cell?_setCell_other _ _ _ _ (addr_ne (.inr (fun e => hq e.symm)))]
    exact hg.cell hc hS
  have rowS : ∀ i k v, i < j2 → w.cell? ⟨G i, k, none⟩ = some v → (w'.setCell ⟨S, 3, none⟩ (.slice (some ⟨b, 0, none⟩) (j3 + 1) cp)).cell? ⟨G i, k, none⟩ = some v := by
    intro i k v hi hc
    rw [World.cell?_setCell_other _ _ _ _ (addr_ne (.inl (by have := (h.rows i hi).1; omega)))]
    exact hg.cell hc (fun e => (h.g i hi).2.1 e.symm)
  refine ⟨cellS 0 _ (by omega) h.s0, cellS 1 _ (by omega) h.s1, cellS 2 _ (by omega) h.s2, World.cell?_setCell_same _ _ _ (hg.cell h.s3 hS), cellS 4 _ (by omega) h.s4, fun o => by rw [World.frozen?_setCell]; exact hfz o, ownsRow_setCell_below (h.r2.kept hg ne2) (by simp) _, ?_, ownsRow_setCell_below (h.r4.kept hg ne4) (by simp) _, ?_, ?_, ?_, ?_⟩
  · rw [range_snoc, ext_map (fun g => Value.int .i64 g), ext_at]
    exact ownsRow_setCell_below ho (by simp) _
  · intro i hi
    exact ⟨(h.rows i (by omega)).1, fun k hk => rowS i k _ (by omega) ((h.rows i (by omega)).2 k hk)⟩
  · intro i hi
    exact ⟨(h.g i hi).1, fun e => gb i (by omega) (by injection e), (h.g i (by omega)).2.2⟩
  · intro k hk
    refine ⟨fun e => ?_, (h.n2 k hk).2⟩
    injection e with e
    have e : b = k := e
    exact nb2 (hk.trans (by rw [e]))
  · intro k hk
    injection hk with hk
    have hk : b = k := hk
    subst hk
    exact nb4

theorem Rw.push4 (h : Rw w S fr up j2 j3 j4 v2 v3 v4 G Q Z T C) (x : Int) (b cp : Nat)
    (ho : w'.ownsRow (S + 1) 3 1 (.slice (some ⟨b, 0, none⟩) (j4 + 1) cp) (j4 + 1) (((List.range j4).map fun i => .int .i64 (C i)) ++ [.int .i64 x])) (hg : w.grownBy w' v4.ownBlock) (hat : v4.ownBlock = some b ∨ w.heap.size ≤ b) :
    Rw (w'.setCell ⟨S, 4, none⟩ (.slice (some ⟨b, 0, none⟩) (j4 + 1) cp)) S fr up j2 j3 (j4 + 1) v2 v3 (.slice (some ⟨b, 0, none⟩) (j4 + 1) cp) G Q Z T (ext C j4 x) := by
  have hS : some S ≠ v4.ownBlock := fun e => by have := (h.r4.lt S e.symm).1; omega
  have hfz : ∀ o, w'.frozen? ⟨S, o, none⟩ = false := fun o => (World.frozen?_of_block (a := ⟨S, o, none⟩) (hg.block S h.lt hS)).trans (h.fz o)
  have ne2 : v2.ownBlock = none ∨ v2.ownBlock ≠ v4.ownBlock := by
    cases hq : v2.ownBlock with
    | none => exact .inl rfl
    | some k => exact .inr (fun e => (show _ from (fun hk : v2.ownBlock = some k => (h.n2 k hk).2)) hq e.symm)
  have nb2 : v2.ownBlock ≠ some b := by
    intro e
    rcases hat with h1 | h1
    · rcases ne2 with h2 | h2
      · rw [h2] at e; cases e
      · exact h2 (e.trans h1.symm)
    · have := (h.r2.lt b e).2; omega
  have ne3 : v3.ownBlock = none ∨ v3.ownBlock ≠ v4.ownBlock := by
    cases hq : v3.ownBlock with
    | none => exact .inl rfl
    | some k => exact .inr (fun e => (show _ from (fun hk : v3.ownBlock = some k => h.n3 k hk)) hq e.symm)
  have nb3 : v3.ownBlock ≠ some b := by
    intro e
    rcases hat with h1 | h1
    · rcases ne3 with h2 | h2
      · rw [h2] at e; cases e
      · exact h2 (e.trans h1.symm)
    · have := (h.r3.lt b e).2; omega
  have gb : ∀ i, i < j2 → b ≠ G i := by
    intro i hi e
    rcases hat with h1 | h1
    · exact (h.g i hi).2.2 (h1.trans (by rw [e]))
    · have := h.glt i hi; omega
  have cellS : ∀ q v, q ≠ 4 → w.cell? ⟨S, q, none⟩ = some v → (w'.setCell ⟨S, 4, none⟩ (.slice (some ⟨b, 0, none⟩) (j4 + 1) cp)).cell? ⟨S, q, none⟩ = some v := by
    intro q v hq hc
    rw [World.cell?_setCell_other _ _ _ _ (addr_ne (.inr (fun e => hq e.symm)))]
    exact hg.cell hc hS
  have rowS : ∀ i k v, i < j2 → w.cell? ⟨G i, k, none⟩ = some v → (w'.setCell ⟨S, 4, none⟩ (.slice (some ⟨b, 0, none⟩) (j4 + 1) cp)).cell? ⟨G i, k, none⟩ = some v := by
    intro i k v hi hc
    rw [World.cell?_setCell_other _ _ _ _ (addr_ne (.inl (by have := (h.rows i hi).1; omega)))]
    exact hg.cell hc (fun e => (h.g i hi).2.2 e.symm)
  refine ⟨cellS 0 _ (by omega) h.s0, cellS 1 _ (by omega) h.s1, cellS 2 _ (by omega) h.s2, cellS 3 _ (by omega) h.s3, World.cell?_setCell_same _ _ _ (hg.cell h.s4 hS), fun o => by rw [World.frozen?_setCell]; exact hfz o, ownsRow_setCell_below (h.r2.kept hg ne2) (by simp) _, ownsRow_setCell_below (h.r3.kept hg ne3) (by simp) _, ?_, ?_, ?_, ?_, ?_⟩
  · rw [range_snoc, ext_map (fun g => Value.int .i64 g), ext_at]
    exact ownsRow_setCell_below ho (by simp) _
  · intro i hi
    exact ⟨(h.rows i (by omega)).1, fun k hk => rowS i k _ (by omega) ((h.rows i (by omega)).2 k hk)⟩
  · intro i hi
    exact ⟨(h.g i hi).1, (h.g i (by omega)).2.1, fun e => gb i (by omega) (by injection e)⟩
  · intro k hk
    refine ⟨(h.n2 k hk).1, fun e => ?_⟩
    injection e with e
    have e : b = k := e
    exact nb2 (hk.trans (by rw [e]))
  · intro k hk e
    injection e with e
    have e : b = k := e
    exact nb3 (hk.trans (by rw [e]))

theorem Rw.put3 {n : Nat} {v' : Value} {T' : Nat → Int} (h : Rw w S fr up j2 0 j4 v2 (.slice none 0 0) v4 G Q Z T C) (ho : w.ownsRow (S + 1) 3 1 v' n ((List.range n).map fun i => .int .i64 (T' i)))
    (hd2 : ∀ k, v'.ownBlock = some k → v2.ownBlock ≠ some k) (hdo : ∀ k, v'.ownBlock = some k → v4.ownBlock ≠ some k) (hG : ∀ i, i < j2 → v'.ownBlock ≠ some (G i)) :
    Rw (w.setCell ⟨S, 3, none⟩ v') S fr up j2 n j4 v2 v' v4 G Q Z T' C := by
  have cellS : ∀ q v, q ≠ 3 → w.cell? ⟨S, q, none⟩ = some v → (w.setCell ⟨S, 3, none⟩ v').cell? ⟨S, q, none⟩ = some v := by
    intro q v hq hc
    rw [World.cell?_setCell_other _ _ _ _ (addr_ne (.inr (fun e => hq e.symm)))]; exact hc
  refine ⟨cellS 0 _ (by omega) h.s0, cellS 1 _ (by omega) h.s1, cellS 2 _ (by omega) h.s2, World.cell?_setCell_same _ _ _ h.s3, cellS 4 _ (by omega) h.s4, fun o => by rw [World.frozen?_setCell]; exact h.fz o, ownsRow_setCell_below h.r2 (by simp) _, ownsRow_setCell_below ho (by simp) _, ownsRow_setCell_below h.r4 (by simp) _, ?_, ?_, fun k hk => ⟨fun e => hd2 k e hk, (h.n2 k hk).2⟩, fun k hk e => hdo k hk e⟩
  · intro i hi
    refine ⟨(h.rows i hi).1, fun k hk => ?_⟩
    rw [World.cell?_setCell_other _ _ _ _ (addr_ne (.inl (by have := (h.rows i hi).1; omega)))]
    exact (h.rows i hi).2 k hk
  · intro i hi
    exact ⟨(h.g i hi).1, fun e => hG i hi e, (h.g i hi).2.2⟩

theorem Rw.put4 {n : Nat} {v' : Value} {T' : Nat → Int} (h : Rw w S fr up j2 j3 0 v2 v3 (.slice none 0 0) G Q Z T C) (ho : w.ownsRow (S + 1) 3 1 v' n ((List.range n).map fun i => .int .i64 (T' i)))
    (hd2 : ∀ k, v'.ownBlock = some k → v2.ownBlock ≠ some k) (hdo : ∀ k, v'.ownBlock = some k → v3.ownBlock ≠ some k) (hG : ∀ i, i < j2 → v'.ownBlock ≠ some (G i)) :
    Rw (w.setCell ⟨S, 4, none⟩ v') S fr up j2 j3 n v2 v3 v' G Q Z T T' := by
  have cellS : ∀ q v, q ≠ 4 → w.cell? ⟨S, q, none⟩ = some v → (w.setCell ⟨S, 4, none⟩ v').cell? ⟨S, q, none⟩ = some v := by
    intro q v hq hc
    rw [World.cell?_setCell_other _ _ _ _ (addr_ne (.inr (fun e => hq e.symm)))]; exact hc
  refine ⟨cellS 0 _ (by omega) h.s0, cellS 1 _ (by omega) h.s1, cellS 2 _ (by omega) h.s2, cellS 3 _ (by omega) h.s3, World.cell?_setCell_same _ _ _ h.s4, fun o => by rw [World.frozen?_setCell]; exact h.fz o, ownsRow_setCell_below h.r2 (by simp) _, ownsRow_setCell_below h.r3 (by simp) _, ownsRow_setCell_below ho (by simp) _, ?_, ?_, fun k hk => ⟨(h.n2 k hk).1, fun e => hd2 k e hk⟩, fun k hk e => hdo k e hk⟩
  · intro i hi
    refine ⟨(h.rows i hi).1, fun k hk => ?_⟩
    rw [World.cell?_setCell_other _ _ _ _ (addr_ne (.inl (by have := (h.rows i hi).1; omega)))]
    exact (h.rows i hi).2 k hk
  · intro i hi
    exact ⟨(h.g i hi).1, (h.g i hi).2.1, fun e => hG i hi e⟩
end
end Go.Proofs.Ytcjadneamacilaa.C

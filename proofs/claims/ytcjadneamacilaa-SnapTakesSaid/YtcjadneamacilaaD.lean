/- Frames of words (package mem) in memory; the contracts of its methods. -/
import Derived.Test.YtcjadneamacilaaC
import Derived.Laws.CopyOwn
namespace Go.Proofs.Ytcjadneamacilaa.C
open Go.RowKit

structure Mm (w : World) (mm ms n : Nat) (Z : Nat → Nat → Int) : Prop where
  ne : mm ≠ ms
  pos : 0 < n
  le : n ≤ 64
  hd : w.cell? ⟨mm, 0, none⟩ = some (.slice (some ⟨ms, 0, none⟩) n n)
  c : ∀ i k : Nat, i < n → k < 36 → w.cell? ⟨ms, i * 36 + k, none⟩ = some (.int .u64 (Z i k))
  wf : ∀ i k : Nat, i < n → k < 36 → (Lit.int .u64 (Z i k)).wf = true
  fz : ∀ o, w.frozen? ⟨ms, o, none⟩ = false

section
variable {w w' : World} {mm ms n : Nat} {Z : Nat → Nat → Int}
theorem Mm.lt (h : Mm w mm ms n Z) : ms < w.heap.size := World.block_lt_of_cell? w _ (h.c 0 0 h.pos (by omega))
theorem Mm.ltt (h : Mm w mm ms n Z) : mm < w.heap.size := World.block_lt_of_cell? w _ h.hd
theorem Mm.kept (h : Mm w mm ms n Z) (k : Kept w w') : Mm w' mm ms n Z :=
  ⟨h.ne, h.pos, h.le, k.cell h.hd, fun i j hi hj => k.cell (h.c i j hi hj), h.wf, fun o => (k.frozen h.lt).trans (h.fz o)⟩
theorem Mm.grown (h : Mm w mm ms n Z) {row : Option Nat} (g : w.grownBy w' row) (h1 : row ≠ some mm) (h2 : row ≠ some ms) : Mm w' mm ms n Z :=
  ⟨h.ne, h.pos, h.le, g.cell h.hd (fun e => h1 e.symm), fun i j hi hj => g.cell (h.c i j hi hj) (fun e => h2 e.symm), h.wf,
    fun o => (World.frozen?_of_block (a := ⟨ms, o, none⟩) (g.block ms h.lt (fun e => h2 e.symm))).trans (h.fz o)⟩

def updZ (Z : Nat → Nat → Int) (i k : Nat) (x : Int) : Nat → Nat → Int := fun a b => if a = i ∧ b = k then x else Z a b
theorem Mm.set (h : Mm w mm ms n Z) (i k : Nat) (hi : i < n) (hk : k < 36) (v : Int) (hv : (Lit.int .u64 v).wf = true) : Mm (w.setCell ⟨ms, i * 36 + k, none⟩ (.int .u64 v)) mm ms n (updZ Z i k v) := by
  refine ⟨h.ne, h.pos, h.le, ?_, ?_, ?_, ?_⟩
  · rw [World.cell?_setCell_other _ _ _ _ (addr_ne (.inl h.ne.symm))]; exact h.hd
  · intro a b ha hb
    by_cases e : a = i ∧ b = k
    · obtain ⟨rfl, rfl⟩ := e
      rw [World.cell?_setCell_same _ _ _ (h.c a b ha hb)]; simp [updZ]
    · rw [World.cell?_setCell_other _ _ _ _ (addr_ne (.inr (by omega))), h.c a b ha hb]
      unfold updZ; rw [if_neg e]
  · intro a b ha hb
    unfold updZ; split
    · exact hv
    · exact h.wf a b ha hb
  · intro o; rw [World.frozen?_setCell]; exact h.fz o
end

def zeroZ : Nat → Nat → Int := fun _ _ => 0
def memZ : Array Value := Array.replicate 36 (.int .u64 0)
theorem info119 : (Try.prog.info? 119).map (fun i => (i.zero, i.size, i.bytes)) = some (some (.agg memZ), 36, 288) := by kernel_rfl
theorem run_mk (w : World) (n : Nat) (hn : n ≤ 64) : (Instr.makeSlice 120 (.int .i64 n) (.int .i64 n)).run Try.prog w = .ok (.slice (some ⟨w.heap.size, 0, none⟩) n n) (w.alloc (.cells (madeCells memZ (n * 36)) 119)) := by
  obtain ⟨i0, hi, hz0, hz1, hz2⟩ := info_parts info119
  have := run_make (P := Try.prog) w 120 119 i0 _ Try.underlying120 hi hz0 .i64 .i64 n n (by omega) (by omega) (by rw [hz2]; omega) (by omega)
  rw [hz1] at this
  simpa [Value.cells] using this

theorem memZ_at (n o : Nat) (h : o < n * 36) : (madeCells memZ (n * 36))[o]? = some (.int .u64 0) := by
  unfold madeCells
  rw [Array.getElem?_map, Array.getElem?_range, if_pos h]
  simp only [Option.map_some]
  have h36 : o % 36 < 36 := Nat.mod_lt _ (by omega)
  have : memZ[o % memZ.size]! = .int .u64 0 := by
    rw [show memZ.size = 36 from by simp [memZ], getElem!_pos memZ (o % 36) (by simp [memZ]; omega)]
    simp [memZ]
  rw [this]

theorem memnew_c (w : World) (n : Nat) (hp : 0 < n) (hn : n ≤ 64) : Calls Try.prog 37 #[.int .i64 n] w fun e w' => e = .returned (.tuple #[.pointer (some ⟨w.heap.size + 1, 0, none⟩), .int .i64 0]) ∧ Mm w' (w.heap.size + 1) w.heap.size n zeroZ ∧ Kept w w' := by
  have hmk := fun w => run_mk w n hn
  go_enter Try.func37, Try.ntmps37
  go_wp2
  go_ret2
  refine ⟨rfl, ?_, ((Kept.refl _).alloc _).alloc _⟩
  refine ⟨by omega, hp, hn, by simp, fun i k hi hk => ?_, fun i k hi hk => by simp [zeroZ, Lit.wf, IntKind.min, IntKind.max, IntKind.signed, IntKind.bits], fun o => ?_⟩
  · rw [World.cell?_alloc_lt _ _ _ (by simp), World.cell?_alloc_new]
    have := memZ_at n (i * 36 + k) (by omega)
    simpa [zeroZ] using this
  · rw [frozen?_alloc_cells, frozen?_alloc_cells]
    simp [World.frozen?]

theorem memnone_c (w : World) (mm ms n : Nat) (Z : Nat → Nat → Int) (h : Mm w mm ms n Z) :
    Calls Try.prog 80 #[.pointer (some ⟨mm, 0, none⟩)] w fun e w' => e = .returned (.bool false) ∧ w = w' := by
  have h1 := h.hd
  have hp := h.pos
  have b1 : ((n : Int) == 0) = false := by simp; omega
  clear h
  go_enter Try.func80, Try.ntmps80
  go_wp2
  go_ret
  exact ⟨rfl, rfl⟩

theorem memis_c (w : World) (mm ms n : Nat) (Z : Nat → Nat → Int) (f : Int) (h : Mm w mm ms n Z) :
    Calls Try.prog 81 #[.pointer (some ⟨mm, 0, none⟩), .int .i64 f] w fun e w' => e = .returned (.bool (inR n f)) ∧ w = w' := by
  have h1 := h.hd
  clear h
  by_cases h0 : 0 ≤ f
  · by_cases h2 : f < n
    · rw [show inR n f = true from decide_eq_true ⟨h0, h2⟩]
      go_enter Try.func81, Try.ntmps81
      go_wp2
      go_ret
      exact ⟨rfl, rfl⟩
    · rw [show inR n f = false from decide_eq_false (fun hh => h2 hh.2)]
      go_enter Try.func81, Try.ntmps81
      go_wp2
      go_ret
      exact ⟨rfl, rfl⟩
  · rw [show inR n f = false from decide_eq_false (fun hh => h0 hh.1)]
    go_enter Try.func81, Try.ntmps81
    go_wp2
    go_ret
    exact ⟨rfl, rfl⟩

def mcanE (n : Nat) (f k : Int) : Int := if (0 ≤ f ∧ f < n) ∧ 0 ≤ k ∧ k < 36 then 0 else 1
theorem memcan_c (w : World) (mm ms n : Nat) (Z : Nat → Nat → Int) (f k : Int) (h : Mm w mm ms n Z) :
    Calls Try.prog 52 #[.pointer (some ⟨mm, 0, none⟩), .int .i64 f, .int .i64 k] w fun e w' => e = .returned (.int .i64 (mcanE n f k)) ∧ w = w' := by
  have H := Lib.hid h
  clear h
  by_cases h0 : 0 ≤ f ∧ f < n
  · have HI : Hid (inR n f = true) := decide_eq_true h0
    by_cases h1 : 0 ≤ k
    · by_cases h2 : k < 36
      · rw [show mcanE n f k = 0 from if_pos ⟨h0, h1, h2⟩]
        clear h0
        go_enter Try.func52, Try.ntmps52
        go_wp2_with (first | (go_at_call 80; refine (memnone_c _ mm ms n Z H.out).mono ?_; rintro e w' ⟨rfl, rfl⟩) | (go_at_call 81; refine (memis_c _ mm ms n Z _ H.out).mono ?_; rw [HI.out]; rintro e w' ⟨rfl, rfl⟩))
        go_ret
        exact ⟨rfl, rfl⟩
      · rw [show mcanE n f k = 1 from if_neg (by omega)]
        clear h0
        go_enter Try.func52, Try.ntmps52
        go_wp2_with (first | (go_at_call 80; refine (memnone_c _ mm ms n Z H.out).mono ?_; rintro e w' ⟨rfl, rfl⟩) | (go_at_call 81; refine (memis_c _ mm ms n Z _ H.out).mono ?_; rw [HI.out]; rintro e w' ⟨rfl, rfl⟩))
        go_ret
        exact ⟨rfl, rfl⟩
    · rw [show mcanE n f k = 1 from if_neg (by omega)]
      clear h0
      go_enter Try.func52, Try.ntmps52
      go_wp2_with (first | (go_at_call 80; refine (memnone_c _ mm ms n Z H.out).mono ?_; rintro e w' ⟨rfl, rfl⟩) | (go_at_call 81; refine (memis_c _ mm ms n Z _ H.out).mono ?_; rw [HI.out]; rintro e w' ⟨rfl, rfl⟩))
      go_ret
      exact ⟨rfl, rfl⟩
  · have HI : Hid (inR n f = false) := decide_eq_false h0
    rw [show mcanE n f k = 1 from if_neg (by omega)]
    clear h0
    go_enter Try.func52, Try.ntmps52
    go_wp2_with (first | (go_at_call 80; refine (memnone_c _ mm ms n Z H.out).mono ?_; rintro e w' ⟨rfl, rfl⟩) | (go_at_call 81; refine (memis_c _ mm ms n Z _ H.out).mono ?_; rw [HI.out]; rintro e w' ⟨rfl, rfl⟩))
    go_ret
    exact ⟨rfl, rfl⟩

theorem memlen_c (w : World) (mm ms n : Nat) (Z : Nat → Nat → Int) (h : Mm w mm ms n Z) :
    Calls Try.prog 57 #[.pointer (some ⟨mm, 0, none⟩)] w fun e w' => e = .returned (.int .i64 n) ∧ w = w' := by
  have H := Lib.hid h
  have h1 := h.hd
  clear h
  go_enter Try.func57, Try.ntmps57
  go_wp2_with (go_at_call 80; refine (memnone_c _ mm ms n Z H.out).mono ?_; rintro e w' ⟨rfl, rfl⟩)
  go_ret
  exact ⟨rfl, rfl⟩

/-- What a frame's words read as. -/
def wrow (z : Nat → Int) : List Value := (List.range 36).map fun k => .int .u64 (z k)
theorem wrow_at (z : Nat → Int) (k : Nat) (hk : k < 36) : (wrow z)[k]? = some (.int .u64 (z k)) := by
  unfold wrow; rw [List.getElem?_map, List.getElem?_range hk]; rfl
theorem run_mk36 (w : World) : (Instr.makeSlice 23 (.int .i64 36) (.int .i64 36)).run Try.prog w = .ok (.slice (some ⟨w.heap.size, 0, none⟩) 36 36) (w.alloc (.cells (madeCells #[.int .u64 0] 36) 37)) := by
  have info : (Try.prog.info? 37).map (fun i => (i.zero, i.size, i.bytes)) = some (some (.int .u64 0), 1, 8) := by kernel_rfl
  obtain ⟨i0, hi, hz0, hz1, hz2⟩ := info_parts info
  have := run_make (P := Try.prog) w 23 37 i0 _ Try.underlying23 hi hz0 .i64 .i64 36 36 (by omega) (by omega) (by rw [hz2]; omega) (by omega)
  rw [hz1] at this
  exact this
def mk36 : List Value := (madeCells #[.int .u64 0] 36).toList
theorem mk36_len : mk36.length = 36 := by simp [mk36, madeCells]
theorem run_mk36' (w : World) : (Instr.makeSlice 23 (.int .i64 36) (.int .i64 36)).run Try.prog w = .ok (.slice (some ⟨w.heap.size, 0, none⟩) 36 36) (w.alloc (.cells mk36.toArray 37)) := by
  rw [run_mk36]; simp [mk36]
theorem wrow_len (z : Nat → Int) : (wrow z).length = 36 := by simp [wrow]
theorem heap_new (w : World) (cs : Array Value) (t : TypeId) : (w.alloc (.cells cs t)).heap[w.heap.size]? = some (.cells cs t (0, 0)) := by
  unfold World.alloc; simp

set_option maxRecDepth 100000 in
theorem words_c (w : World) (mm ms n : Nat) (Z : Nat → Nat → Int) (k : Nat) (hk : k < n) (h : Mm w mm ms n Z) :
    Calls Try.prog 59 #[.pointer (some ⟨mm, 0, none⟩), .int .i64 k] w fun e w' => e = .returned (.tuple #[.slice (some ⟨w.heap.size, 0, none⟩) 36 36, .int .i64 0]) ∧ (∀ j, j < 36 → w'.cell? ⟨w.heap.size, j, none⟩ = some (.int .u64 (Z k j))) ∧ Kept w w' ∧ w.heap.size < w'.heap.size := by
  have H := Lib.hid h
  have h1 := h.hd
  have hmk := run_mk36'
  have HC : Hid (mcanE n k 0 = 0) := if_pos ⟨⟨by omega, by omega⟩, by omega, by omega⟩
  have hlt := h.lt
  have hltt := h.ltt
  have HS : Hid (∀ (W : World), Kept w W → ∀ j v, (wrow (Z k))[j]? = some v → W.cell? ((⟨ms, k * 36, none⟩ : Addr).add j) = some v) := by
    intro W hW j v hj
    have hj36 : j < 36 := by have := (List.getElem?_eq_some_iff.1 hj).1; simpa [wrow] using this
    rw [wrow_at _ _ hj36] at hj
    injection hj with hj; subst hj
    have e : (⟨ms, k * 36, none⟩ : Addr).add j = ⟨ms, k * 36 + j, none⟩ := by unfold Addr.add; split <;> simp_all
    rw [e]
    exact hW.cell (h.c k j hk hj36)
  obtain ⟨W2, hcp, hg, hB⟩ : ∃ W2, (Builtin.copy_ #[23, 23] 3 #[.slice (some ⟨w.heap.size, 0, none⟩) 36 36, .slice (some ⟨ms, k * 36, none⟩) 36 36]).run Try.prog (w.alloc (.cells mk36.toArray 37)) = .ok (.int .i64 36) W2 ∧ W2.heap[w.heap.size]? = some (.cells (wrow (Z k)).toArray 37 (0, 0)) ∧ Kept w W2 := by
    have hrun := run_copy_row (P := Try.prog) (w.alloc (.cells mk36.toArray 37)) 23 23 3 37 w.heap.size 0 36 36 ⟨ms, k * 36, none⟩ 36 36 mk36.toArray 37 (wrow (Z k)) Try.underlying23 (by kernel_rfl) (heap_new _ _ _) (by rw [wrow_len]; rfl) (HS.out _ ((Kept.refl _).alloc _)) (by rw [wrow_len]; simp [mk36_len]) (by simp [wrow, Value.oneCell'])
    rw [wrow_len] at hrun
    simp only [List.take_zero, List.nil_append, Nat.zero_add] at hrun
    rw [List.drop_eq_nil_of_le (by simp [mk36_len]), List.append_nil] at hrun
    refine ⟨_, hrun, setRow_heap _ _ _ _ _ _ (heap_new _ _ _), below_setRow ((Kept.refl _).alloc _) (Nat.le_refl _) _⟩
  have HG := Lib.hid hg
  have HB := Lib.hid hB
  clear h hg hB HS
  go_enter Try.func59, Try.ntmps59
  go_wp2_with (go_at_call 52; refine (memcan_c _ mm ms n Z _ _ H.out).mono ?_; rw [HC.out]; rintro e w' ⟨rfl, rfl⟩)
  go_ret2
  have hg := HG.out
  refine ⟨rfl, fun j hj => ?_, HB.out, ?_⟩
  · have := wrow_at (Z k) j hj
    simp [World.cell?, hg, this]
  · exact (Array.getElem?_eq_some_iff.1 hg).1
end Go.Proofs.Ytcjadneamacilaa.C

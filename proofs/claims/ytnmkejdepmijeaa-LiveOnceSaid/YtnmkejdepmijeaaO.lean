/- The contract of live.New. -/
import Derived.Test.YtnmkejdepmijeaaN
namespace Go.Proofs.Ytnmkejdepmijeaa.C
open Go.RowKit

def rowZ : Array Value := madeCells #[.bool false, .int .i64 0, .bool false, .int .i64 0] 256
theorem rowZ_at (i j : Nat) (hi : i < 64) (hj : j < 4) : rowZ[i * 4 + j]? = some (#[Value.bool false, .int .i64 0, .bool false, .int .i64 0][j]!) := by
  unfold rowZ madeCells
  rw [Array.getElem?_map, Array.getElem?_range, if_pos (by omega)]
  simp only [Option.map_some]
  rw [show (i * 4 + j) % (#[Value.bool false, .int .i64 0, .bool false, .int .i64 0] : Array Value).size = j from by simp; omega]

theorem mk64 (w : World) : (Instr.makeSlice 34 (.int .i64 64) (.int .i64 64)).run Try.prog w = .ok (.slice (some ⟨w.heap.size, 0, none⟩) 64 64) (w.alloc (.cells rowZ 47)) := by
  have info : (Try.prog.info? 47).map (fun i => (i.zero, i.size, i.bytes)) = some (some (.agg #[.bool false, .int .i64 0, .bool false, .int .i64 0]), 4, 32) := by kernel_rfl
  obtain ⟨i0, hi, hz0, hz1, hz2⟩ := info_parts info
  have := run_make (P := Try.prog) w 34 47 i0 _ Try.underlying34 hi hz0 .i64 .i64 64 64 (by omega) (by omega) (by rw [hz2]; omega) (by omega)
  rw [hz1] at this
  exact this

def zeroL : Nat → Id := fun _ => ⟨false, 0, false, 0⟩

theorem new_c (w : World) : Calls Try.prog 8 #[] w fun e w' => e = .returned (.pointer (some ⟨w.heap.size + 1, 0, none⟩)) ∧ Tab w' (w.heap.size + 1) w.heap.size zeroL ∧ Kept w w' := by
  have hmk := mk64
  go_enter Try.func8, Try.ntmps8
  go_wp2
  go_ret
  refine ⟨rfl, ?_, ((Kept.refl _).alloc _).alloc _⟩
  have hc : ∀ o, ((w.alloc (Obj.cells rowZ 47)).alloc (Obj.cells #[Value.slice (some { block := w.heap.size, off := 0 }) 64 64] 36)).cell? ⟨w.heap.size, o, none⟩ = rowZ[o]? := by
    intro o
    rw [World.cell?_alloc_lt _ _ _ (by simp)]
    simp
  refine ⟨by omega, by simp, fun i hi => ?_, fun i hi => ?_, fun i hi => ?_, fun i hi => ?_, fun o => ?_⟩
  · rw [hc]; exact rowZ_at i 0 hi (by omega)
  · rw [hc]; exact rowZ_at i 1 hi (by omega)
  · rw [hc]; exact rowZ_at i 2 hi (by omega)
  · rw [hc]; exact rowZ_at i 3 hi (by omega)
  · rw [frozen?_alloc_cells, frozen?_alloc_cells]
    simp [World.frozen?]
end Go.Proofs.Ytnmkejdepmijeaa.C

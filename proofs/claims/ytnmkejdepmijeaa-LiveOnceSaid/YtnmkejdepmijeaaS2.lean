/- LiveOnce: what each act leaves of the table and the three rows. -/
import Derived.Test.YtnmkejdepmijeaaS
namespace Go.Proofs.Ytnmkejdepmijeaa.C
open Go.RowKit

theorem idsOf_at {H : List Ent} {k : Nat} {e : Ent} (h : H[k]? = some e) : (idsOf H)[k]? = some (.int .i64 (e.id : Int)) := by simp [idsOf, h]
theorem epsOf_at {H : List Ent} {k : Nat} {e : Ent} (h : H[k]? = some e) : (epsOf H)[k]? = some (.int .i64 e.ep) := by simp [epsOf, h]
theorem ddsOf_at {H : List Ent} {k : Nat} {e : Ent} (h : H[k]? = some e) : (ddsOf H)[k]? = some (.bool e.dd) := by simp [ddsOf, h]
theorem slice_form {w : World} {B e n : Nat} {x : List Value} {a : Option Addr} {m c : Nat} (h : w.ownsRow B e 1 (.slice a m c) n x) (hn : 0 < n) : ∃ g, a = some ⟨g, 0, none⟩ ∧ m = n := by
  obtain ⟨k, rfl⟩ : ∃ k, n = k + 1 := ⟨n - 1, by omega⟩
  obtain ⟨g, cap, hg⟩ := ownsRow_succ h
  injection hg with h1 h2 h3
  exact ⟨g, h1, h2⟩

structure Mid (w : World) (L : Nat → Id) (v8 v9 v10 : Value) (n8 n9 n10 : Nat) (x8 x9 x10 : List Value) (wr : World) : Prop where
  t : Tab wr (w.heap.size + 1) w.heap.size L
  bel : Below w.heap.size w wr
  sz : w.heap.size + 2 ≤ wr.heap.size
  rows : Rows3 (w.heap.size + 2) wr v8 v9 v10 n8 n9 n10 x8 x9 x10

section
variable {w a b : World} {L M : Nat → Id} {v8 v9 v10 : Value} {n8 n9 n10 : Nat} {x8 x9 x10 : List Value}
theorem Mid.kept (h : Mid w L v8 v9 v10 n8 n9 n10 x8 x9 x10 a) (k : Kept a b) : Mid w L v8 v9 v10 n8 n9 n10 x8 x9 x10 b :=
  ⟨h.t.kept k, h.bel.trans (Below.mono k h.bel.size), Nat.le_trans h.sz k.size, h.rows.kept k⟩
theorem Mid.stepT (h : Mid w L v8 v9 v10 n8 n9 n10 x8 x9 x10 a) (t : Tab b (w.heap.size + 1) w.heap.size M) (g : a.grownBy b (some w.heap.size)) : Mid w M v8 v9 v10 n8 n9 n10 x8 x9 x10 b :=
  ⟨t, h.bel.grown g h.bel.size (fun k hk => by cases hk; exact Nat.le_refl _), Nat.le_trans h.sz g.size, h.rows.grown g (fun k hk => by cases hk; omega)⟩
theorem row_ne {w a : World} {e n : Nat} {v : Value} {x : List Value} (o : a.ownsRow (w.heap.size + 2) e 1 v n x) : v.ownBlock ≠ some (w.heap.size + 1) ∧ v.ownBlock ≠ some w.heap.size ∧ ∀ k, v.ownBlock = some k → w.heap.size ≤ k :=
  ⟨fun e => by have := (o.lt _ e).1; omega, fun e => by have := (o.lt _ e).1; omega, fun k e => by have := (o.lt _ e).1; omega⟩
theorem Mid.app1 {v8' : Value} {n' : Nat} {x' : List Value} (h : Mid w L v8 v9 v10 n8 n9 n10 x8 x9 x10 a) (ho : b.ownsRow (w.heap.size + 2) 3 1 v8' n' x') (g : a.grownBy b v8.ownBlock) (hl : v8'.ownBlock = v8.ownBlock ∨ v8'.ownBlock = some a.heap.size) :
    Mid w L v8' v9 v10 n' n9 n10 x' x9 x10 b := by
  obtain ⟨r1, r2, r3⟩ := row_ne h.rows.o1
  exact ⟨h.t.grown g r1 r2, h.bel.grown g h.bel.size r3, Nat.le_trans h.sz g.size, h.rows.app1 ho g hl⟩
theorem Mid.app2 {v9' : Value} {n' : Nat} {x' : List Value} (h : Mid w L v8 v9 v10 n8 n9 n10 x8 x9 x10 a) (ho : b.ownsRow (w.heap.size + 2) 3 1 v9' n' x') (g : a.grownBy b v9.ownBlock) (hl : v9'.ownBlock = v9.ownBlock ∨ v9'.ownBlock = some a.heap.size) :
    Mid w L v8 v9' v10 n8 n' n10 x8 x' x10 b := by
  obtain ⟨r1, r2, r3⟩ := row_ne h.rows.o2
  exact ⟨h.t.grown g r1 r2, h.bel.grown g h.bel.size r3, Nat.le_trans h.sz g.size, h.rows.app2 ho g hl⟩
theorem Mid.app3 {v10' : Value} {n' : Nat} {x' : List Value} (h : Mid w L v8 v9 v10 n8 n9 n10 x8 x9 x10 a) (ho : b.ownsRow (w.heap.size + 2) 4 1 v10' n' x') (g : a.grownBy b v10.ownBlock) (hl : v10'.ownBlock = v10.ownBlock ∨ v10'.ownBlock = some a.heap.size) :
    Mid w L v8 v9 v10' n8 n9 n' x8 x9 x' b := by
  obtain ⟨r1, r2, r3⟩ := row_ne h.rows.o3
  exact ⟨h.t.grown g r1 r2, h.bel.grown g h.bel.size r3, Nat.le_trans h.sz g.size, h.rows.app3 ho g hl⟩
theorem Mid.set3 {g cap : Nat} (h : Mid w L v8 v9 (.slice (some ⟨g, 0, none⟩) n10 cap) n8 n9 n10 x8 x9 x10 a) (j : Nat) (u : Value) :
    Mid w L v8 v9 (.slice (some ⟨g, 0, none⟩) n10 cap) n8 n9 n10 x8 x9 (x10.set j u) (a.setCell ⟨g, j, none⟩ u) := by
  obtain ⟨r1, r2, r3⟩ := row_ne h.rows.o3
  have gr := grownBy_setCell a ⟨g, j, none⟩ u
  exact ⟨h.t.grown gr r1 r2, h.bel.grown gr h.bel.size r3, Nat.le_trans h.sz gr.size, h.rows.set3 j u⟩
end

theorem Once.mid {w a : World} {L : Nat → Id} {H : List Ent} {v8 v9 v10 : Value} (h : Once w L H v8 v9 v10 a) : Mid w L v8 v9 v10 H.length H.length H.length (idsOf H) (epsOf H) (ddsOf H) a := ⟨h.t, h.bel, h.sz, h.rows⟩
theorem Mid.once {w a : World} {L : Nat → Id} {H : List Ent} {v8 v9 v10 : Value} (h : Mid w L v8 v9 v10 H.length H.length H.length (idsOf H) (epsOf H) (ddsOf H) a) (i : InvO L H) : Once w L H v8 v9 v10 a := ⟨h.t, h.bel, h.sz, h.rows, i⟩

theorem set_ids (H : List Ent) (k : Nat) (e : Ent) (he : H[k]? = some e) : idsOf (H.set k { e with dd := true }) = idsOf H := by
  unfold idsOf
  rw [List.map_set]
  apply List.ext_getElem?
  intro j
  rw [List.getElem?_set]
  by_cases hj : k = j
  · rw [if_pos hj]
    have hk : k < H.length := (List.getElem?_eq_some_iff.1 he).1
    rw [if_pos (by simpa using hk), ← hj]; simp [he]
  · rw [if_neg hj]
theorem set_eps (H : List Ent) (k : Nat) (e : Ent) (he : H[k]? = some e) : epsOf (H.set k { e with dd := true }) = epsOf H := by
  unfold epsOf
  rw [List.map_set]
  apply List.ext_getElem?
  intro j
  rw [List.getElem?_set]
  by_cases hj : k = j
  · rw [if_pos hj]
    have hk : k < H.length := (List.getElem?_eq_some_iff.1 he).1
    rw [if_pos (by simpa using hk), ← hj]; simp [he]
  · rw [if_neg hj]
theorem set_dds (H : List Ent) (k : Nat) (e : Ent) : ddsOf (H.set k { e with dd := true }) = (ddsOf H).set k (.bool true) := by
  unfold ddsOf
  rw [List.map_set]

theorem Once.killed {w a b : World} {L : Nat → Id} {H : List Ent} {v8 v9 : Value} {g n cap k : Nat} {e : Ent} {now : Int} (h : Once w L H v8 v9 (.slice (some ⟨g, 0, none⟩) n cap) a) (hn : n = H.length) (he : H[k]? = some e)
    (t : Tab b (w.heap.size + 1) w.heap.size (killL L e.id e.ep now)) (gr : a.grownBy b (some w.heap.size)) :
    n = (H.set k { e with dd := true }).length ∧ Once w (killL L e.id e.ep now) (H.set k { e with dd := true }) v8 v9 (.slice (some ⟨g, 0, none⟩) n cap) (b.setCell ⟨g, k, none⟩ (.bool true)) := by
  subst hn
  refine ⟨by simp, Mid.once ?_ (h.inv.kill he now).2⟩
  rw [set_ids H k e he, set_eps H k e he, set_dds, List.length_set]
  exact (h.mid.stepT t gr).set3 k _

/-- The cells of the three rows at a place. -/
theorem Once.cells {w a : World} {L : Nat → Id} {H : List Ent} {d8 d9 d10 : Option Addr} {n e8 e9 e10 : Nat} (h : Once w L H (.slice d8 n e8) (.slice d9 n e9) (.slice d10 n e10) a) (hn : n = H.length) (hp : 0 < n) :
    ∃ g8 g9 g10, d8 = some ⟨g8, 0, none⟩ ∧ d9 = some ⟨g9, 0, none⟩ ∧ d10 = some ⟨g10, 0, none⟩ := by
  subst hn
  obtain ⟨g8, h8, _⟩ := slice_form h.rows.o1 hp
  obtain ⟨g9, h9, _⟩ := slice_form h.rows.o2 hp
  obtain ⟨g10, h10, _⟩ := slice_form h.rows.o3 hp
  exact ⟨g8, g9, g10, h8, h9, h10⟩
theorem Mid.at8 {w a : World} {L : Nat → Id} {H : List Ent} {v9 v10 : Value} {g n c n9 n10 : Nat} {x9 x10 : List Value} {k : Nat} {e : Ent} (h : Mid w L (.slice (some ⟨g, 0, none⟩) n c) v9 v10 H.length n9 n10 (idsOf H) x9 x10 a) (hn : n = H.length) (he : H[k]? = some e) : a.cell? ⟨g, k, none⟩ = some (.int .i64 (e.id : Int)) := by
  have hk : k < H.length := (List.getElem?_eq_some_iff.1 he).1
  subst hn
  rw [h.rows.o1.cellAt k (by omega)]; exact idsOf_at he
theorem Mid.at9 {w a : World} {L : Nat → Id} {H : List Ent} {v8 v10 : Value} {g n c n8 n10 : Nat} {x8 x10 : List Value} {k : Nat} {e : Ent} (h : Mid w L v8 (.slice (some ⟨g, 0, none⟩) n c) v10 n8 H.length n10 x8 (epsOf H) x10 a) (hn : n = H.length) (he : H[k]? = some e) : a.cell? ⟨g, k, none⟩ = some (.int .i64 e.ep) := by
  have hk : k < H.length := (List.getElem?_eq_some_iff.1 he).1
  subst hn
  rw [h.rows.o2.cellAt k (by omega)]; exact epsOf_at he
theorem Mid.at10 {w a : World} {L : Nat → Id} {H : List Ent} {v8 v9 : Value} {g n c n8 n9 : Nat} {x8 x9 : List Value} {k : Nat} {e : Ent} (h : Mid w L v8 v9 (.slice (some ⟨g, 0, none⟩) n c) n8 n9 H.length x8 x9 (ddsOf H) a) (hn : n = H.length) (he : H[k]? = some e) : a.cell? ⟨g, k, none⟩ = some (.bool e.dd) ∧ a.frozen? ⟨g, k, none⟩ = false := by
  have hk : k < H.length := (List.getElem?_eq_some_iff.1 he).1
  subst hn
  exact ⟨by rw [h.rows.o3.cellAt k (by omega)]; exact ddsOf_at he, h.rows.o3.frozenAt k⟩
theorem Mid.in8 {w a : World} {L : Nat → Id} {H : List Ent} {v9 v10 : Value} {g n c n9 n10 : Nat} {x9 x10 : List Value} {k : Nat} {e : Ent} (h : Mid w L (.slice (some ⟨g, 0, none⟩) n c) v9 v10 n n9 n10 (idsOf H) x9 x10 a) (he : H[k]? = some e) : a.cell? ⟨g, k, none⟩ = some (.int .i64 (e.id : Int)) := by
  have hk : k < H.length := (List.getElem?_eq_some_iff.1 he).1
  have hl := h.rows.o1.1
  simp [idsOf] at hl
  rw [h.rows.o1.cellAt k (by omega)]; exact idsOf_at he
theorem Mid.in9 {w a : World} {L : Nat → Id} {H : List Ent} {v8 v10 : Value} {g n c n8 n10 : Nat} {x8 x10 : List Value} {k : Nat} {e : Ent} (h : Mid w L v8 (.slice (some ⟨g, 0, none⟩) n c) v10 n8 n n10 x8 (epsOf H) x10 a) (he : H[k]? = some e) : a.cell? ⟨g, k, none⟩ = some (.int .i64 e.ep) := by
  have hk : k < H.length := (List.getElem?_eq_some_iff.1 he).1
  have hl := h.rows.o2.1
  simp [epsOf] at hl
  rw [h.rows.o2.cellAt k (by omega)]; exact epsOf_at he
theorem Mid.conv {w a : World} {L : Nat → Id} {H : List Ent} {v8 v9 v10 : Value} {n : Nat} {x8 x9 x10 : List Value} (h : Mid w L v8 v9 v10 H.length H.length H.length x8 x9 x10 a) (hn : n = H.length) : Mid w L v8 v9 v10 n n n x8 x9 x10 a := by subst hn; exact h
theorem Mid.cells {w a : World} {L : Nat → Id} {d8 d9 d10 : Option Addr} {n e8 e9 e10 : Nat} {x8 x9 x10 : List Value} (h : Mid w L (.slice d8 n e8) (.slice d9 n e9) (.slice d10 n e10) n n n x8 x9 x10 a) (hp : 0 < n) :
    ∃ g8 g9 g10, d8 = some ⟨g8, 0, none⟩ ∧ d9 = some ⟨g9, 0, none⟩ ∧ d10 = some ⟨g10, 0, none⟩ := by
  obtain ⟨g8, h8, _⟩ := slice_form h.rows.o1 hp
  obtain ⟨g9, h9, _⟩ := slice_form h.rows.o2 hp
  obtain ⟨g10, h10, _⟩ := slice_form h.rows.o3 hp
  exact ⟨g8, g9, g10, h8, h9, h10⟩
theorem Mid.grew {w a : World} {L : Nat → Id} {H : List Ent} {v8 v9 v10 : Value} {n : Nat} {e : Ent} (h : Mid w L v8 v9 v10 (n + 1) (n + 1) (n + 1) (idsOf H ++ [.int .i64 (e.id : Int)]) (epsOf H ++ [.int .i64 e.ep]) (ddsOf H ++ [.bool e.dd]) a) (hn : n = H.length) (i : InvO L (H ++ [e])) :
    n + 1 = (H ++ [e]).length ∧ Once w L (H ++ [e]) v8 v9 v10 a := by
  subst hn
  refine ⟨by simp, Mid.once ?_ i⟩
  simp only [idsOf, epsOf, ddsOf, List.map_append, List.map_cons, List.map_nil, List.length_append, List.length_cons, List.length_nil] at h ⊢
  exact h
theorem app_ids (H : List Ent) (e : Ent) : idsOf (H ++ [e]) = idsOf H ++ [.int .i64 (e.id : Int)] := by simp [idsOf]
theorem app_eps (H : List Ent) (e : Ent) : epsOf (H ++ [e]) = epsOf H ++ [.int .i64 e.ep] := by simp [epsOf]
theorem app_dds (H : List Ent) (e : Ent) : ddsOf (H ++ [e]) = ddsOf H ++ [.bool e.dd] := by simp [ddsOf]
end Go.Proofs.Ytnmkejdepmijeaa.C

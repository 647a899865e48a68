/- mem.Store; the reference's frames of words: its Is, Store, Words. -/
import Derived.Test.YtcjadneamacilaaD
import Derived.Laws.OwnMore
namespace Go.Proofs.Ytcjadneamacilaa.C
open Go.RowKit

def stZ (n : Nat) (Z : Nat → Nat → Int) (f k v : Int) : Nat → Nat → Int := if mcanE n f k = 0 then updZ Z f.toNat k.toNat v else Z

set_option maxRecDepth 100000 in
set_option maxHeartbeats 1000000 in
theorem mstore_c (w : World) (mm ms n : Nat) (Z : Nat → Nat → Int) (f k v : Int) (h : Mm w mm ms n Z) (hv : (Lit.int .u64 v).wf = true) :
    Calls Try.prog 10 #[.pointer (some ⟨mm, 0, none⟩), .int .i64 f, .int .i64 k, .int .u64 v] w fun e w' => e = .returned (.int .i64 (mcanE n f k)) ∧ Mm w' mm ms n (stZ n Z f k v) ∧ w.grownBy w' (some ms) := by
  have H := Lib.hid h
  by_cases h0 : (0 ≤ f ∧ f < n) ∧ 0 ≤ k ∧ k < 36
  · have HC : Hid (mcanE n f k = 0) := if_pos h0
    obtain ⟨a, rfl⟩ : ∃ a : Nat, f = a := ⟨f.toNat, by omega⟩
    obtain ⟨b, rfl⟩ : ∃ b : Nat, k = b := ⟨k.toNat, by omega⟩
    obtain ⟨⟨-, h1⟩, -, h2⟩ := h0
    have ha : a < n := by omega
    have hb : b < 36 := by omega
    have hz : stZ n Z a b v = updZ Z a b v := by unfold stZ; rw [if_pos HC.out]; rfl
    have hd := h.hd
    have c0 := h.c a b ha hb
    have f0 := h.fz (a * 36 + b)
    have hle := h.le
    have HV := Lib.hid hv
    rw [HC.out, hz]
    clear h hz
    go_enter Try.func10, Try.ntmps10
    go_wp2_with (first | (go_at_call 52; refine (memcan_c _ mm ms n Z _ _ H.out).mono ?_; rw [HC.out]; rintro e w' ⟨rfl, rfl⟩))
    go_ret
    exact ⟨rfl, H.out.set a b ha hb v HV.out, grownBy_setCell w ⟨ms, a * 36 + b, none⟩ _⟩
  · have HC : Hid (mcanE n f k = 1) := if_neg h0
    have hz : stZ n Z f k v = Z := by unfold stZ; rw [if_neg (by rw [HC.out]; decide)]
    rw [HC.out, hz]
    clear h hz h0
    go_enter Try.func10, Try.ntmps10
    go_wp2_with (first | (go_at_call 52; refine (memcan_c _ mm ms n Z _ _ H.out).mono ?_; rw [HC.out]; rintro e w' ⟨rfl, rfl⟩))
    go_ret
    exact ⟨rfl, H.out, grownBy_kept (Kept.refl _) _⟩

/-- The reference's frames. -/
structure Rm (w : World) (rm rf n cap : Nat) (G Q : Nat → Nat) (Z : Nat → Nat → Int) : Prop where
  pos : 0 < n
  le : n ≤ 64
  hd : w.cell? ⟨rm, 0, none⟩ = some (.slice (some ⟨rf, 0, none⟩) n cap)
  r : ∀ i : Nat, i < n → w.cell? ⟨rf, i, none⟩ = some (.slice (some ⟨G i, 0, none⟩) 36 (Q i))
  c : ∀ i k : Nat, i < n → k < 36 → w.cell? ⟨G i, k, none⟩ = some (.int .u64 (Z i k))
  wf : ∀ i k : Nat, i < n → k < 36 → (Lit.int .u64 (Z i k)).wf = true
  fz : ∀ i o : Nat, i < n → w.frozen? ⟨G i, o, none⟩ = false
  inj : ∀ i j : Nat, i < n → j < n → G i = G j → i = j
  ne : ∀ i : Nat, i < n → G i ≠ rm ∧ G i ≠ rf
section
variable {w w' : World} {rm rf n cap : Nat} {G Q : Nat → Nat} {Z : Nat → Nat → Int}
theorem Rm.lt (h : Rm w rm rf n cap G Q Z) (i : Nat) (hi : i < n) : G i < w.heap.size := World.block_lt_of_cell? w _ (h.c i 0 hi (by omega))
theorem Rm.kept (h : Rm w rm rf n cap G Q Z) (k : Kept w w') : Rm w' rm rf n cap G Q Z :=
  ⟨h.pos, h.le, k.cell h.hd, fun i hi => k.cell (h.r i hi), fun i j hi hj => k.cell (h.c i j hi hj), h.wf, fun i o hi => (k.frozen (h.lt i hi)).trans (h.fz i o hi), h.inj, h.ne⟩
theorem Rm.grown (h : Rm w rm rf n cap G Q Z) {row : Option Nat} (g : w.grownBy w' row) (h1 : row ≠ some rm) (h2 : row ≠ some rf) (h3 : ∀ i, i < n → row ≠ some (G i)) : Rm w' rm rf n cap G Q Z :=
  ⟨h.pos, h.le, g.cell h.hd (fun e => h1 e.symm), fun i hi => g.cell (h.r i hi) (fun e => h2 e.symm), fun i j hi hj => g.cell (h.c i j hi hj) (fun e => h3 i hi e.symm), h.wf,
    fun i o hi => (World.frozen?_of_block (a := ⟨G i, o, none⟩) (g.block (G i) (h.lt i hi) (fun e => h3 i hi e.symm))).trans (h.fz i o hi), h.inj, h.ne⟩
theorem Rm.set (h : Rm w rm rf n cap G Q Z) (i k : Nat) (hi : i < n) (hk : k < 36) (v : Int) (hv : (Lit.int .u64 v).wf = true) : Rm (w.setCell ⟨G i, k, none⟩ (.int .u64 v)) rm rf n cap G Q (updZ Z i k v) := by
  refine ⟨h.pos, h.le, ?_, ?_, ?_, ?_, ?_, h.inj, h.ne⟩
  · rw [World.cell?_setCell_other _ _ _ _ (addr_ne (.inl (h.ne i hi).1))]; exact h.hd
  · intro j hj; rw [World.cell?_setCell_other _ _ _ _ (addr_ne (.inl (h.ne i hi).2))]; exact h.r j hj
  · intro a b ha hb
    by_cases e : a = i ∧ b = k
    · obtain ⟨rfl, rfl⟩ := e
      rw [World.cell?_setCell_same _ _ _ (h.c a b ha hb)]; simp [updZ]
    · have : G i ≠ G a ∨ k ≠ b := by
        by_cases e1 : G i = G a
        · right; intro e2; exact e ⟨(h.inj i a hi ha e1).symm, e2.symm⟩
        · exact .inl e1
      rw [World.cell?_setCell_other _ _ _ _ (addr_ne this), h.c a b ha hb]
      unfold updZ; rw [if_neg e]
  · intro a b ha hb
    unfold updZ; split
    · exact hv
    · exact h.wf a b ha hb
  · intro a o ha; rw [World.frozen?_setCell]; exact h.fz a o ha
end

set_option maxRecDepth 100000 in
set_option maxHeartbeats 1000000 in
theorem rmis_c (w : World) (rm rf n cap : Nat) (G Q : Nat → Nat) (Z : Nat → Nat → Int) (f : Int) (h : Rm w rm rf n cap G Q Z) :
    Calls Try.prog 53 #[.pointer (some ⟨rm, 0, none⟩), .int .i64 f] w fun e w' => e = .returned (.bool (inR n f)) ∧ w = w' := by
  have hd := h.hd
  clear h
  by_cases h0 : 0 ≤ f
  · by_cases h1 : f < n
    · rw [show inR n f = true from decide_eq_true ⟨h0, h1⟩]
      go_enter Try.func53, Try.ntmps53
      go_wp2
      go_ret
      exact ⟨rfl, rfl⟩
    · rw [show inR n f = false from decide_eq_false (fun hh => h1 hh.2)]
      go_enter Try.func53, Try.ntmps53
      go_wp2
      go_ret
      exact ⟨rfl, rfl⟩
  · rw [show inR n f = false from decide_eq_false (fun hh => h0 hh.1)]
    go_enter Try.func53, Try.ntmps53
    go_wp2
    go_ret
    exact ⟨rfl, rfl⟩

set_option maxRecDepth 100000 in
set_option maxHeartbeats 1000000 in
theorem rmstore_c (w : World) (rm rf n cap : Nat) (G Q : Nat → Nat) (Z : Nat → Nat → Int) (f k v : Int) (h : Rm w rm rf n cap G Q Z) (hv : (Lit.int .u64 v).wf = true) :
    Calls Try.prog 11 #[.pointer (some ⟨rm, 0, none⟩), .int .i64 f, .int .i64 k, .int .u64 v] w fun e w' => ∃ row, e = .returned (.int .i64 (mcanE n f k)) ∧ Rm w' rm rf n cap G Q (stZ n Z f k v) ∧ w.grownBy w' row ∧ (row = none ∨ ∃ i, i < n ∧ row = some (G i)) := by
  have H := Lib.hid h
  by_cases hf : 0 ≤ f ∧ f < n
  · have HC : Hid (inR n f = true) := decide_eq_true hf
    obtain ⟨a, rfl⟩ : ∃ a : Nat, f = a := ⟨f.toNat, by omega⟩
    have ha : a < n := by omega
    by_cases h1 : 0 ≤ k
    · by_cases h2 : k < 36
      · have hE : mcanE n a k = 0 := if_pos ⟨hf, h1, h2⟩
        obtain ⟨b, rfl⟩ : ∃ b : Nat, k = b := ⟨k.toNat, by omega⟩
        have hb : b < 36 := by omega
        have hz : stZ n Z a b v = updZ Z a b v := by unfold stZ; rw [if_pos hE]; rfl
        have hd := h.hd
        have hr := h.r a ha
        have c0 := h.c a b ha hb
        have f0 := h.fz a b ha
        have hle := h.le
        have HV := Lib.hid hv
        obtain ⟨-, hf1⟩ := hf
        rw [hE, hz]
        clear h hz hE
        go_enter Try.func11, Try.ntmps11
        go_wp2_with (first | (go_at_call 53; refine (rmis_c _ _ _ _ _ _ _ _ _ H.out).mono ?_; rw [HC.out]; rintro e w' ⟨rfl, rfl⟩))
        go_ret
        exact ⟨_, rfl, H.out.set a b ha hb v HV.out, grownBy_setCell w ⟨G a, b, none⟩ _, .inr ⟨a, ha, rfl⟩⟩
      · have hE : mcanE n a k = 1 := if_neg (by omega)
        have hz : stZ n Z a k v = Z := by unfold stZ; rw [if_neg (by rw [hE]; decide)]
        rw [hE, hz]
        clear h hz hE hf
        go_enter Try.func11, Try.ntmps11
        go_wp2_with (first | (go_at_call 53; refine (rmis_c _ _ _ _ _ _ _ _ _ H.out).mono ?_; rw [HC.out]; rintro e w' ⟨rfl, rfl⟩))
        go_ret
        exact ⟨none, rfl, H.out, grownBy_kept (Kept.refl _) _, .inl rfl⟩
    · have hE : mcanE n a k = 1 := if_neg (by omega)
      have hz : stZ n Z a k v = Z := by unfold stZ; rw [if_neg (by rw [hE]; decide)]
      rw [hE, hz]
      clear h hz hE hf
      go_enter Try.func11, Try.ntmps11
      go_wp2_with (first | (go_at_call 53; refine (rmis_c _ _ _ _ _ _ _ _ _ H.out).mono ?_; rw [HC.out]; rintro e w' ⟨rfl, rfl⟩))
      go_ret
      exact ⟨none, rfl, H.out, grownBy_kept (Kept.refl _) _, .inl rfl⟩
  · have HC : Hid (inR n f = false) := decide_eq_false hf
    have hE : mcanE n f k = 1 := if_neg (by omega)
    have hz : stZ n Z f k v = Z := by unfold stZ; rw [if_neg (by rw [hE]; decide)]
    rw [hE, hz]
    clear h hz hE hf
    go_enter Try.func11, Try.ntmps11
    go_wp2_with (first | (go_at_call 53; refine (rmis_c _ _ _ _ _ _ _ _ _ H.out).mono ?_; rw [HC.out]; rintro e w' ⟨rfl, rfl⟩))
    go_ret
    exact ⟨none, rfl, H.out, grownBy_kept (Kept.refl _) _, .inl rfl⟩

set_option maxRecDepth 100000 in
set_option maxHeartbeats 1000000 in
theorem rmwords_c (w : World) (rm rf n cap : Nat) (G Q : Nat → Nat) (Z : Nat → Nat → Int) (k : Nat) (hk : k < n) (h : Rm w rm rf n cap G Q Z) :
    Calls Try.prog 62 #[.pointer (some ⟨rm, 0, none⟩), .int .i64 k] w fun e w' => ∃ b c, e = .returned (.tuple #[.slice (some ⟨b, 0, none⟩) 36 c, .int .i64 0]) ∧ (∀ j, j < 36 → w'.cell? ⟨b, j, none⟩ = some (.int .u64 (Z k j))) ∧ Kept w w' ∧ w.heap.size ≤ b ∧ b < w'.heap.size ∧ 36 ≤ c ∧ c ≤ maxLen := by
  have infoE : (Try.prog.info? 37).map (fun i => (i.zero, i.size, i.bytes)) = some (some (.int .u64 0), 1, 8) := by kernel_rfl
  obtain ⟨i37, hi, hz0, hz1, hz2⟩ := info_parts infoE
  clear infoE
  have H := Lib.hid h
  have HC : Hid (inR n (k : Int) = true) := decide_eq_true ⟨by omega, by omega⟩
  have hd := h.hd
  have hr := h.r k hk
  have hle := h.le
  have hkn : (k : Int) < n := by omega
  have hS : ∀ W, Kept w W → ∀ j u, (wrow (Z k))[j]? = some u → W.cell? ((⟨G k, 0, none⟩ : Addr).add j) = some u := by
    intro W hW j u hj
    have hj36 : j < 36 := by have := (List.getElem?_eq_some_iff.1 hj).1; simpa [wrow] using this
    rw [wrow_at _ _ hj36] at hj
    injection hj with hj; subst hj
    have e : (⟨G k, 0, none⟩ : Addr).add j = ⟨G k, j, none⟩ := by unfold Addr.add; split <;> simp_all
    rw [e]; exact hW.cell (h.c k j hk hj36)
  have HSS := Lib.hid hS
  clear h hS
  have hl1 : rm < w.heap.size := World.block_lt_of_cell? w _ hd
  have hl2 : rf < w.heap.size := World.block_lt_of_cell? w _ hr
  have K1 : Hid (Kept w (w.alloc (.cells #[] 37))) := (Kept.refl w).alloc _
  have HO := Lib.hid (World.ownsRow_lit (base := w.heap.size) (size := 1) (e := 37) w #[] 0 (Nat.le_refl _) (by simp [maxLen]) rfl)
  go_enter Try.func62, Try.ntmps62
  go_wp2_with (first | (first | (go_at_call 53; refine (rmis_c _ _ _ _ _ _ _ _ _ H.out).mono ?_; rw [HC.out]; rintro e w' ⟨rfl, rfl⟩)) | (at_builtin; refine wpList_append_own_at _ rfl _ _ 23 rfl w.heap.size 37 i37 (.int .u64 0) 1 8 Try.underlying23 hi hz0 hz1 hz2 rfl (by decide) _ _ _ rfl HO.out ⟨G k, 0, none⟩ 36 (Q k) (wrow (Z k)) rfl (by rw [wrow_len]) (HSS.out _ K1.out) ?c2 ?c3 ?c4 ?c5 ?_))
  case c2 => simp [wrow, Value.oneCell']
  case c3 => simp [maxLen]
  case c4 => omega
  case c5 => simp
  intro v' w6 hown' hgrow _ _
  have hk6 : Kept w w6 := Below.grown K1.out hgrow K1.out.size (fun j hj => (HO.out.lt j hj).1)
  have HK := Lib.hid hk6
  obtain ⟨b, c, hv⟩ := ownsRow_succ hown'
  subst hv
  have HOW := Lib.hid hown'
  clear hown' hgrow hk6 hd hr hl1 hl2
  go_wp2_with fail
  go_ret2
  have ho := HOW.out
  obtain ⟨hb1, hb2⟩ := ho.lt b rfl
  refine ⟨b, c, rfl, fun j hj => ?_, HK.out, hb1, hb2, ?_⟩
  · rw [ho.cellAt j (by omega)]; simpa using wrow_at (Z k) j hj
  · obtain ⟨-, h | ⟨g, cp, cur, e, _, _, h1, h2, _⟩⟩ := ho
    · exact absurd h.2 (by omega)
    · injection e with e1 e2 e3; subst e3; exact ⟨by omega, h2⟩
end Go.Proofs.Ytcjadneamacilaa.C

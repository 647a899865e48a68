/- Plain facts for LiveOnce: who was taken, in which epoch, and whether he was killed. -/
import Derived.Test.YtnmkejdepmijeaaRD
namespace Go.Proofs.Ytnmkejdepmijeaa.C
open Go.RowKit

structure Ent where
  id : Nat
  ep : Int
  dd : Bool

structure InvO (L : Nat → Id) (H : List Ent) : Prop where
  lt : ∀ e ∈ H, e.id < 64
  dead : ∀ e ∈ H, e.dd = true → e.ep < (L e.id).ep
  live : ∀ e ∈ H, e.dd = false → (L e.id).on = true ∧ (L e.id).ep = e.ep
  on : ∀ i, (L i).on = true → (L i).ep < 65535
  lo : ∀ i, 0 ≤ (L i).ep
  hi : ∀ i, (L i).ep ≤ 65535
  one : ∀ (a b : Nat) (e f : Ent), H[a]? = some e → H[b]? = some f → e.id = f.id → e.ep = f.ep → a = b

theorem InvO.zero : InvO zeroL [] := ⟨by simp, by simp, by simp, by simp [zeroL], by simp [zeroL], by simp [zeroL], by simp⟩

theorem InvO.valid {L : Nat → Id} {H : List Ent} (h : InvO L H) {k : Nat} {e : Ent} (he : H[k]? = some e) : validB L e.id e.ep = !e.dd := by
  have hm := List.mem_of_getElem? he
  have hlt := h.lt e hm
  have h64 : (e.id : Int) < 64 := by omega
  cases hd : e.dd
  · obtain ⟨h1, h2⟩ := h.live e hm hd
    simp [validB, h64, h1, h2]
  · have := h.dead e hm hd
    have hne : ¬ (L e.id).ep = e.ep := by omega
    simp [validB, hne]

theorem set_same (H : List Ent) (k : Nat) (e : Ent) (he : H[k]? = some e) : H.set k e = H := by
  apply List.ext_getElem?
  intro j
  rw [List.getElem?_set]
  by_cases hj : k = j
  · rw [if_pos hj]
    have hk : k < H.length := (List.getElem?_eq_some_iff.1 he).1
    rw [if_pos hk, ← hj]; exact he.symm
  · rw [if_neg hj]

theorem InvO.kill {L : Nat → Id} {H : List Ent} (h : InvO L H) {k : Nat} {e : Ent} (he : H[k]? = some e) (now : Int) :
    killE L e.id e.ep = (if e.dd then 7 else 0) ∧ InvO (killL L e.id e.ep now) (H.set k { e with dd := true }) := by
  have hm := List.mem_of_getElem? he
  have hlt := h.lt e hm
  have hv := h.valid he
  have hk : k < H.length := (List.getElem?_eq_some_iff.1 he).1
  constructor
  · unfold killE
    rw [if_pos (by omega), hv]
    cases e.dd <;> rfl
  · cases hd : e.dd
    · obtain ⟨l1, l2⟩ := h.live e hm hd
      have hep := h.on _ l1
      have hep0 := h.lo e.id
      have hL : killL L e.id e.ep now = upd L e.id ⟨false, e.ep + 1, true, now⟩ := by
        unfold killL; rw [hv, hd]
        have hw : wrap64 (e.ep + 1) = e.ep + 1 := by unfold wrap64; omega
        rw [hw]; rfl
      rw [hL]
      -- what lies at a place behind the kill
      have at_ : ∀ j f, (H.set k { e with dd := true })[j]? = some f → (j = k ∧ f = { e with dd := true }) ∨ (j ≠ k ∧ H[j]? = some f) := by
        intro j f hf
        rw [List.getElem?_set] at hf
        by_cases hj : k = j
        · rw [if_pos hj, if_pos (by omega)] at hf
          injection hf with hf
          exact .inl ⟨hj.symm, hf.symm⟩
        · rw [if_neg hj] at hf
          exact .inr ⟨fun e => hj e.symm, hf⟩
      have mem_ : ∀ f ∈ H.set k { e with dd := true }, f = { e with dd := true } ∨ ∃ j, j ≠ k ∧ H[j]? = some f := by
        intro f hf
        obtain ⟨j, hj⟩ := List.getElem?_of_mem hf
        rcases at_ j f hj with ⟨_, h2⟩ | ⟨h1, h2⟩
        · exact .inl h2
        · exact .inr ⟨j, h1, h2⟩
      refine ⟨?_, ?_, ?_, ?_, ?_, ?_, ?_⟩
      · intro f hf
        rcases mem_ f hf with rfl | ⟨j, _, hj⟩
        · exact hlt
        · exact h.lt f (List.mem_of_getElem? hj)
      · intro f hf hfd
        rcases mem_ f hf with rfl | ⟨j, hne, hj⟩
        · simp [upd]; omega
        · have := h.dead f (List.mem_of_getElem? hj) hfd
          by_cases hid : f.id = e.id
          · rw [hid] at this; simp [upd, hid]; omega
          · simp [upd, hid]; exact this
      · intro f hf hfd
        rcases mem_ f hf with rfl | ⟨j, hne, hj⟩
        · simp at hfd
        · have hl := h.live f (List.mem_of_getElem? hj) hfd
          by_cases hid : f.id = e.id
          · exfalso
            rw [hid] at hl
            exact hne (h.one j k f e hj he hid (by rw [← hl.2, l2]))
          · simp [upd, hid]; exact hl
      · intro i hi
        by_cases hid : i = e.id
        · simp [upd, hid] at hi
        · simp [upd, hid] at hi ⊢; exact h.on i hi
      · intro i
        by_cases hid : i = e.id
        · simp [upd, hid]; omega
        · simp [upd, hid]; exact h.lo i
      · intro i
        by_cases hid : i = e.id
        · simp [upd, hid]; omega
        · simp [upd, hid]; exact h.hi i
      · intro a b f g ha hb hid hee
        rcases at_ a f ha with ⟨rfl, rfl⟩ | ⟨ha1, ha2⟩
        · rcases at_ b g hb with ⟨rfl, rfl⟩ | ⟨hb1, hb2⟩
          · rfl
          · exact h.one a b e g he hb2 hid hee
        · rcases at_ b g hb with ⟨rfl, rfl⟩ | ⟨hb1, hb2⟩
          · exact h.one a b f e ha2 he hid hee
          · exact h.one a b f g ha2 hb2 hid hee
    · have hL : killL L e.id e.ep now = L := by unfold killL; rw [hv, hd]; rfl
      rw [hL]
      have hee : ({ e with dd := true } : Ent) = e := by cases e; simp_all
      rw [hee, set_same H k e he]
      exact h

theorem InvO.take {L : Nat → Id} {H : List Ent} (h : InvO L H) (fl : Int) :
    (take2 L fl = 2 ∧ InvO (takeL L fl) H) ∨ (∃ k : Nat, take2 L fl = 0 ∧ take0 L fl = k ∧ (∀ e ∈ H, e.id = k → e.ep ≠ take1 L fl) ∧ InvO (takeL L fl) (H ++ [⟨k, take1 L fl, false⟩])) := by
  rcases idxF_lt (fun i => mayB (L i) fl) 64 0 with hi | ⟨k, hi, -, hk, hp, -⟩
  · left
    have e2 : take2 L fl = 2 := if_pos (by unfold takeI; omega)
    have e3 : takeL L fl = L := if_pos (by unfold takeI; omega)
    rw [e2, e3]; exact ⟨rfl, h⟩
  · right
    have e0 : take0 L fl = k := by unfold take0 takeI; rw [hi, if_neg (by omega)]
    have e1 : take1 L fl = (L k).ep := by unfold take1 takeI; rw [hi, if_neg (by omega)]; rfl
    have e2 : take2 L fl = 0 := by unfold take2 takeI; rw [hi, if_neg (by omega)]
    have e3 : takeL L fl = upd L k { L k with on := true } := by unfold takeL takeI; rw [hi, if_neg (by omega)]; rfl
    have hmay : (L k).on = false ∧ (L k).ep < 65535 := by
      have : mayB (L k) fl = true := hp
      unfold mayB at this
      simp at this
      exact ⟨this.1.1, this.2⟩
    have hno : ∀ e ∈ H, e.id = k → e.ep ≠ (L k).ep := by
      intro e he hid heq
      cases hd : e.dd
      · have := (h.live e he hd).1
        rw [hid, hmay.1] at this; simp at this
      · have := h.dead e he hd
        rw [hid] at this; omega
    refine ⟨k, e2, e0, by rw [e1]; exact hno, ?_⟩
    rw [e1, e3]
    have mem_ : ∀ f ∈ H ++ [⟨k, (L k).ep, false⟩], f ∈ H ∨ f = ⟨k, (L k).ep, false⟩ := by intro f hf; simpa using hf
    refine ⟨?_, ?_, ?_, ?_, ?_, ?_, ?_⟩
    · intro f hf
      rcases mem_ f hf with hf | rfl
      · exact h.lt f hf
      · simp; omega
    · intro f hf hfd
      rcases mem_ f hf with hf | rfl
      · have := h.dead f hf hfd
        by_cases hid : f.id = k
        · rw [hid] at this; simp [upd, hid]; exact this
        · simp [upd, hid]; exact this
      · simp at hfd
    · intro f hf hfd
      rcases mem_ f hf with hf | rfl
      · have := h.live f hf hfd
        by_cases hid : f.id = k
        · rw [hid] at this; simp [upd, hid]; exact this.2
        · simp [upd, hid]; exact this
      · simp [upd]
    · intro i hi
      by_cases hid : i = k
      · simp [upd, hid]; exact hmay.2
      · simp [upd, hid] at hi ⊢; exact h.on i hi
    · intro i
      by_cases hid : i = k
      · simp [upd, hid]; exact h.lo k
      · simp [upd, hid]; exact h.lo i
    · intro i
      by_cases hid : i = k
      · simp [upd, hid]; exact h.hi k
      · simp [upd, hid]; exact h.hi i
    · intro a b f g ha hb hid hee
      have at_ : ∀ (j : Nat) (f : Ent), (H ++ [⟨k, (L k).ep, false⟩])[j]? = some f → (j < H.length ∧ H[j]? = some f) ∨ (j = H.length ∧ f = ⟨k, (L k).ep, false⟩) := by
        intro j f hf
        rw [List.getElem?_append] at hf
        split at hf
        · exact .inl ⟨by assumption, hf⟩
        · have hj : j - H.length < 1 := by
            rcases Nat.lt_or_ge (j - H.length) 1 with h | h
            · exact h
            · rw [List.getElem?_eq_none (by simpa using h)] at hf; simp at hf
          have hj0 : j - H.length = 0 := by omega
          rw [hj0] at hf
          simp at hf
          exact .inr ⟨by omega, hf.symm⟩
      rcases at_ a f ha with ⟨ha1, ha2⟩ | ⟨ha1, rfl⟩
      · rcases at_ b g hb with ⟨hb1, hb2⟩ | ⟨hb1, rfl⟩
        · exact h.one a b f g ha2 hb2 hid hee
        · exact absurd hee (hno f (List.mem_of_getElem? ha2) hid)
      · rcases at_ b g hb with ⟨hb1, hb2⟩ | ⟨hb1, rfl⟩
        · exact absurd hee.symm (hno g (List.mem_of_getElem? hb2) hid.symm)
        · omega
end Go.Proofs.Ytnmkejdepmijeaa.C

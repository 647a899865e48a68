/- Lines of package hw: the contracts of its methods. -/
import Derived.Test.YthoklnnnnkfhcaaM
namespace Go.Proofs.Ythoklnnnnkfhcaa.C
open Go.RowKit Go.Maps

theorem qm (w : World) (r : Option Nat) : (binOp .eql 23 (.map r) (.map none)).run Try.prog w = .ok (.bool r.isNone) w := run_eql_map_nil w _ _ _ r Try.underlying23

theorem none_c (w : World) (lb mb n : Nat) (M : Nat → Option Int) (h : Lns w lb mb n M) :
    Calls Try.prog 19 #[.pointer (some ⟨lb, 0, none⟩)] w fun e w' => e = .returned (.bool false) ∧ w = w' := by
  have h1 := h.hd
  clear h
  have hm := qm
  go_enter Try.func19, Try.ntmps19
  go_wp2
  go_ret
  exact ⟨rfl, rfl⟩
theorem none_nil (w : World) : Calls Try.prog 19 #[.pointer none] w fun e w' => e = .returned (.bool true) ∧ w = w' := by
  go_enter Try.func19, Try.ntmps19
  go_wp2
  go_ret
  exact ⟨rfl, rfl⟩
theorem none_emp (w : World) (lb : Nat) (h : w.cell? ⟨lb, 0, none⟩ = some (.map none)) : Calls Try.prog 19 #[.pointer (some ⟨lb, 0, none⟩)] w fun e w' => e = .returned (.bool true) ∧ w = w' := by
  have hm := qm
  go_enter Try.func19, Try.ntmps19
  go_wp2
  go_ret
  exact ⟨rfl, rfl⟩

def canE (i : Int) : Int := if 0 ≤ i ∧ i < 8 then 0 else 1
theorem can_c (w : World) (lb mb n : Nat) (M : Nat → Option Int) (i : Int) (h : Lns w lb mb n M) :
    Calls Try.prog 18 #[.pointer (some ⟨lb, 0, none⟩), .int .i64 i] w fun e w' => e = .returned (.int .i64 (canE i)) ∧ w = w' := by
  have H := Lib.hid h
  clear h
  by_cases h1 : 0 ≤ i
  · by_cases h2 : i < 8
    · rw [show canE i = 0 from if_pos ⟨h1, h2⟩]
      go_enter Try.func18, Try.ntmps18
      go_wp2_with (go_at_call 19; refine (none_c _ lb mb n M H.out).mono ?_; rintro e w' ⟨rfl, rfl⟩)
      go_ret
      exact ⟨rfl, rfl⟩
    · rw [show canE i = 1 from if_neg (by omega)]
      go_enter Try.func18, Try.ntmps18
      go_wp2_with (go_at_call 19; refine (none_c _ lb mb n M H.out).mono ?_; rintro e w' ⟨rfl, rfl⟩)
      go_ret
      exact ⟨rfl, rfl⟩
  · rw [show canE i = 1 from if_neg (by omega)]
    go_enter Try.func18, Try.ntmps18
    go_wp2_with (go_at_call 19; refine (none_c _ lb mb n M H.out).mono ?_; rintro e w' ⟨rfl, rfl⟩)
    go_ret
    exact ⟨rfl, rfl⟩

def ofE (M : Nat → Option Int) (i : Int) : Int := if 0 ≤ i ∧ i < 8 then (match M i.toNat with | some _ => 0 | none => 3) else 1
def ofF (M : Nat → Option Int) (i : Int) : Int := if 0 ≤ i ∧ i < 8 then (match M i.toNat with | some f => f | none => 0) else 0

theorem new_c (w : World) : Calls Try.prog 11 #[] w fun e w' => e = .returned (.pointer (some ⟨w.heap.size + 1, 0, none⟩)) ∧ Lns w' (w.heap.size + 1) w.heap.size 0 (fun _ => none) ∧ Kept w w' := by
  have hmm := @run_makeMap Try.prog
  go_enter Try.func11, Try.ntmps11
  go_wp2
  go_ret
  refine ⟨rfl, ⟨by simp, .map [], (World.ownsMap_made _ _ _ _).alloc _, fun i hi => ⟨rfl, fun f hf => by simp at hf⟩⟩, ((Kept.refl _).alloc _).alloc _⟩

theorem of_c (w : World) (lb mb n : Nat) (M : Nat → Option Int) (i : Int) (h : Lns w lb mb n M) :
    Calls Try.prog 7 #[.pointer (some ⟨lb, 0, none⟩), .int .i64 i] w fun e w' => e = .returned (.tuple #[.int .i64 (ofF M i), .int .i64 (ofE M i)]) ∧ w = w' := by
  have H := Lib.hid h
  have hd := h.hd
  clear h
  by_cases hr : 0 ≤ i ∧ i < 8
  · obtain ⟨k, rfl⟩ : ∃ k : Nat, i = k := ⟨i.toNat, by omega⟩
    obtain ⟨D, ho, hD⟩ := H.out.mp
    obtain ⟨d1, d2⟩ := hD k (by omega)
    have HO := Lib.hid ho
    have HC : Hid (canE (k : Int) = 0) := if_pos hr
    clear ho hD
    cases hM : M k with
    | none =>
      rw [show ofF M k = 0 from by unfold ofF; rw [if_pos hr]; simp [hM], show ofE M k = 3 from by unfold ofE; rw [if_pos hr]; simp [hM]]
      rw [hM] at d1
      have HD := Lib.hid d1
      clear d1 d2 hM
      go_enter Try.func7, Try.ntmps7
      go_wp2_with (first | (go_at_call 18; refine (can_c _ lb mb n M _ H.out).mono ?_; rw [HC.out]; rintro e w' ⟨rfl, rfl⟩) | (at_lookup; refine wpList_lookup_own_ok_int _ rfl _ _ 23 rfl 3 3 .i64 law3 Try.underlying23 Try.underlying3 (zero3 _) mb n D rfl HO.out _ _ rfl (keyOf_int_mk Try.underlying3 (wf_small _ (by omega) (by omega))) ?_; intro c hat hwc; rw [HD.out]; clear hat hwc))
      go_ret2
      exact ⟨rfl, rfl⟩
    | some f =>
      rw [show ofF M k = f from by unfold ofF; rw [if_pos hr]; simp [hM], show ofE M k = 0 from by unfold ofE; rw [if_pos hr]; simp [hM]]
      rw [hM] at d1
      have HD := Lib.hid d1
      have HF := Lib.hid (d2 f hM)
      clear d1 d2 hM
      go_enter Try.func7, Try.ntmps7
      go_wp2_with (first | (go_at_call 18; refine (can_c _ lb mb n M _ H.out).mono ?_; rw [HC.out]; rintro e w' ⟨rfl, rfl⟩) | (at_lookup; refine wpList_lookup_own_ok_int _ rfl _ _ 23 rfl 3 3 .i64 law3 Try.underlying23 Try.underlying3 (zero3 _) mb n D rfl HO.out _ _ rfl (keyOf_int_mk Try.underlying3 (wf_small _ (by omega) (by omega))) ?_; intro c hat hwc; rw [HD.out]; rw [HF.out] at hat; injection hat with hat; injection hat with _ hat; subst hat; clear hwc))
      go_ret2
      exact ⟨rfl, rfl⟩
  · rw [show ofF M i = 0 from if_neg hr, show ofE M i = 1 from if_neg hr]
    have HC : Hid (canE i = 1) := if_neg hr
    clear hr
    go_enter Try.func7, Try.ntmps7
    go_wp2_with (go_at_call 18; refine (can_c _ lb mb n M _ H.out).mono ?_; rw [HC.out]; rintro e w' ⟨rfl, rfl⟩)
    go_ret2
    exact ⟨rfl, rfl⟩

theorem turned_grown {w w' : World} {b : Nat} (h : w.mapTurned w' b) : w.grownBy w' (some b) := h.grown

def deM (M : Nat → Option Int) (i : Int) : Nat → Option Int := if 0 ≤ i ∧ i < 8 then updM M i.toNat none else M

theorem updM_none (M : Nat → Option Int) (k : Nat) (h : M k = none) : updM M k none = M := by
  funext j
  by_cases e : j = k
  · simp [updM, e, h]
  · simp [updM, e]

theorem detach_c (w : World) (lb mb n : Nat) (M : Nat → Option Int) (i : Int) (h : Lns w lb mb n M) :
    Calls Try.prog 8 #[.pointer (some ⟨lb, 0, none⟩), .int .i64 i] w fun e w' => e = .returned (.tuple #[.int .i64 (ofF M i), .int .i64 (ofE M i)]) ∧ Lns w' lb mb n (deM M i) ∧ w.grownBy w' (some mb) := by
  have H := Lib.hid h
  have hd := h.hd
  clear h
  by_cases hr : 0 ≤ i ∧ i < 8
  · obtain ⟨k, rfl⟩ : ∃ k : Nat, i = k := ⟨i.toNat, by omega⟩
    have eM : deM M k = updM M k none := by unfold deM; rw [if_pos hr]; rfl
    rw [eM]
    cases hM : M k with
    | none =>
      have e0 : ofF M k = 0 := by unfold ofF; rw [if_pos hr]; simp [hM]
      have e1 : ofE M k = 3 := by unfold ofE; rw [if_pos hr]; simp [hM]
      have E := Lib.hid (And.intro e0 e1)
      rw [updM_none M k hM, e0, e1]
      clear e0 e1 hM eM
      go_enter Try.func8, Try.ntmps8
      go_wp2_with (go_at_call 7; refine (of_c _ lb mb n M _ H.out).mono ?_; rw [E.out.1, E.out.2]; rintro e w' ⟨rfl, rfl⟩)
      go_ret2
      exact ⟨rfl, H.out, grownBy_kept (Kept.refl _) _⟩
    | some f =>
      have e0 : ofF M k = f := by unfold ofF; rw [if_pos hr]; simp [hM]
      have e1 : ofE M k = 0 := by unfold ofE; rw [if_pos hr]; simp [hM]
      have E := Lib.hid (And.intro e0 e1)
      rw [e0, e1]
      clear e0 e1 hM eM
      obtain ⟨D, ho, hD⟩ := H.out.mp
      have HO := Lib.hid ho
      have HD := Lib.hid hD
      clear ho hD
      go_enter Try.func8, Try.ntmps8
      go_wp2_with (first | (go_at_call 7; refine (of_c _ lb mb n M _ H.out).mono ?_; rw [E.out.1, E.out.2]; rintro e w' ⟨rfl, rfl⟩) | (at_delete; refine wpList_delete_own _ rfl _ _ 23 3 rfl 3 law3 Try.underlying23 _ mb n D rfl HO.out _ _ rfl (keyOf_int_mk Try.underlying3 (wf_small _ (by omega) (by omega))) ?_; intro w1 hown1 hturn1; have HN := Lib.hid (And.intro hown1 (turned_grown hturn1)); clear hown1 hturn1))
      go_ret2
      exact ⟨rfl, H.out.del HD.out k HN.out.1 HN.out.2, HN.out.2⟩
  · have e0 : ofF M i = 0 := if_neg hr
    have e1 : ofE M i = 1 := if_neg hr
    have e2 : deM M i = M := if_neg hr
    have E := Lib.hid (And.intro e0 e1)
    rw [e0, e1, e2]
    clear e0 e1 e2
    go_enter Try.func8, Try.ntmps8
    go_wp2_with (go_at_call 7; refine (of_c _ lb mb n M _ H.out).mono ?_; rw [E.out.1, E.out.2]; rintro e w' ⟨rfl, rfl⟩)
    go_ret2
    exact ⟨rfl, H.out, grownBy_kept (Kept.refl _) _⟩

def atOk (i f : Int) : Prop := 0 ≤ i ∧ i < 8 ∧ 0 ≤ f ∧ f < 64
instance (i f : Int) : Decidable (atOk i f) := by unfold atOk; infer_instance
def atE (M : Nat → Option Int) (i f : Int) : Int := if atOk i f then (if (M i.toNat).isSome then 10 else 0) else 1
def atM (M : Nat → Option Int) (i f : Int) : Nat → Option Int := if atOk i f ∧ (M i.toNat).isSome = false then updM M i.toNat (some f) else M

theorem attach_c (w : World) (lb mb n : Nat) (M : Nat → Option Int) (i f : Int) (hn : n < 100000) (h : Lns w lb mb n M) :
    Calls Try.prog 9 #[.pointer (some ⟨lb, 0, none⟩), .int .i64 i, .int .i64 f] w fun e w' => e = .returned (.int .i64 (atE M i f)) ∧ Lns w' lb mb (n + 1) (atM M i f) ∧ w.grownBy w' (some mb) := by
  have mono : ∀ {w : World} {M : Nat → Option Int}, Lns w lb mb n M → Lns w lb mb (n + 1) M := by
    intro w M h
    obtain ⟨D, ho, hD⟩ := h.mp
    exact ⟨h.hd, D, ho.mono (by omega), hD⟩
  have H := Lib.hid h
  have hd := h.hd
  have HM := Lib.hid (mono h)
  clear h mono
  by_cases hr : 0 ≤ i ∧ i < 8
  · obtain ⟨k, rfl⟩ : ∃ k : Nat, i = k := ⟨i.toNat, by omega⟩
    have HC : Hid (canE (k : Int) = 0) := if_pos hr
    by_cases hf : 0 ≤ f ∧ f < 64
    · obtain ⟨hf0, hf1⟩ := hf
      obtain ⟨D, ho, hD⟩ := H.out.mp
      obtain ⟨d1, d2⟩ := hD k (by omega)
      have HO := Lib.hid ho
      have HD := Lib.hid hD
      clear ho hD d2
      cases hM : M k with
      | some g =>
        have e0 : atE M k f = 10 := by unfold atE; rw [if_pos ⟨hr.1, hr.2, hf0, hf1⟩]; simp [hM]
        have e1 : atM M k f = M := by unfold atM; rw [if_neg (by simp [hM])]
        rw [e0, e1]
        rw [hM] at d1
        have HB := Lib.hid d1
        clear d1 hM e0 e1
        go_enter Try.func9, Try.ntmps9
        go_wp2_with (first | (go_at_call 18; refine (can_c _ lb mb n M _ H.out).mono ?_; rw [HC.out]; rintro e w' ⟨rfl, rfl⟩) | (at_lookup; refine wpList_lookup_own_ok_int _ rfl _ _ 23 rfl 3 3 .i64 law3 Try.underlying23 Try.underlying3 (zero3 _) mb n D rfl HO.out _ _ rfl (keyOf_int_mk Try.underlying3 (wf_small _ (by omega) (by omega))) ?_; intro c hat hwc; rw [HB.out]; clear hat hwc))
        go_ret
        exact ⟨rfl, HM.out, grownBy_kept (Kept.refl _) _⟩
      | none =>
        have e0 : atE M k f = 0 := by unfold atE; rw [if_pos ⟨hr.1, hr.2, hf0, hf1⟩]; simp [hM]
        have e1 : atM M k f = updM M k (some f) := by unfold atM; rw [if_pos ⟨⟨hr.1, hr.2, hf0, hf1⟩, by simp [hM]⟩]; rfl
        rw [e0, e1]
        rw [hM] at d1
        have HB := Lib.hid d1
        clear d1 hM e0 e1
        go_enter Try.func9, Try.ntmps9
        go_wp2_with (first | (go_at_call 18; refine (can_c _ lb mb n M _ H.out).mono ?_; rw [HC.out]; rintro e w' ⟨rfl, rfl⟩) | (at_lookup; refine wpList_lookup_own_ok_int _ rfl _ _ 23 rfl 3 3 .i64 law3 Try.underlying23 Try.underlying3 (zero3 _) mb n D rfl HO.out _ _ rfl (keyOf_int_mk Try.underlying3 (wf_small _ (by omega) (by omega))) ?_; intro c hat hwc; rw [HB.out]; clear hat hwc) | (at_mapUpdate; refine wpList_mapUpdate_own _ rfl _ _ _ 23 rfl 3 3 law3 Try.underlying23 _ mb n _ rfl HO.out (by unfold maxLen; omega) _ _ _ rfl rfl (keyOf_int_mk Try.underlying3 (wf_small _ (by omega) (by omega))) _ [] (plainElem_int Try.underlying3 (wf_small _ (by omega) (by omega))) ?_; intro w1 hown1 hgrow1; have HN := Lib.hid (And.intro hown1 hgrow1); clear hown1 hgrow1))
        go_ret
        exact ⟨rfl, H.out.put HO.out HD.out k (by omega) f HN.out.1 HN.out.2, HN.out.2⟩
    · have hno : ¬ atOk k f := fun h => hf ⟨h.2.2.1, h.2.2.2⟩
      have e0 : atE M k f = 1 := if_neg hno
      have e1 : atM M k f = M := if_neg (fun h => hno h.1)
      rw [e0, e1]
      clear e0 e1 hno
      by_cases hf0 : 0 ≤ f
      · have hf1 : 64 ≤ f := by omega
        clear hf
        go_enter Try.func9, Try.ntmps9
        go_wp2_with (go_at_call 18; refine (can_c _ lb mb n M _ H.out).mono ?_; rw [HC.out]; rintro e w' ⟨rfl, rfl⟩)
        go_ret
        exact ⟨rfl, HM.out, grownBy_kept (Kept.refl _) _⟩
      · clear hf
        go_enter Try.func9, Try.ntmps9
        go_wp2_with (go_at_call 18; refine (can_c _ lb mb n M _ H.out).mono ?_; rw [HC.out]; rintro e w' ⟨rfl, rfl⟩)
        go_ret
        exact ⟨rfl, HM.out, grownBy_kept (Kept.refl _) _⟩
  · have hno : ¬ atOk i f := fun h => hr ⟨h.1, h.2.1⟩
    have e0 : atE M i f = 1 := if_neg hno
    have e1 : atM M i f = M := if_neg (fun h => hno h.1)
    rw [e0, e1]
    have HC : Hid (canE i = 1) := if_neg hr
    clear e0 e1 hno hr
    go_enter Try.func9, Try.ntmps9
    go_wp2_with (go_at_call 18; refine (can_c _ lb mb n M _ H.out).mono ?_; rw [HC.out]; rintro e w' ⟨rfl, rfl⟩)
    go_ret
    exact ⟨rfl, HM.out, grownBy_kept (Kept.refl _) _⟩

/-- How many of the first m lines lead to f. -/
def hasF (M : Nat → Option Int) (f : Int) : Nat → Nat
  | 0 => 0
  | m + 1 => hasF M f m + if M m = some f then 1 else 0
theorem hasF_le (M : Nat → Option Int) (f : Int) (m : Nat) : hasF M f m ≤ m := by
  induction m with
  | zero => simp [hasF]
  | succ m ih => simp only [hasF]; split <;> omega

theorem has_c (w : World) (lb mb n : Nat) (M : Nat → Option Int) (f : Int) (h : Lns w lb mb n M) :
    Calls Try.prog 10 #[.pointer (some ⟨lb, 0, none⟩), .int .i64 f] w fun e w' => e = .returned (.int .i64 (hasF M f 8)) ∧ w = w' := by
  have H := Lib.hid h
  have hd := h.hd
  clear h
  obtain ⟨D, ho, hD⟩ := H.out.mp
  have HO := Lib.hid ho
  have HD := Lib.hid hD
  clear ho hD
  go_enter Try.func10, Try.ntmps10
  go_wp2_with (go_at_call 19; refine (none_c _ lb mb n M H.out).mono ?_; rintro e w' ⟨rfl, rfl⟩)
  go_loop [5, 6, 7, 8, 11] (fun c _ _ _ i => ∃ m : Nat, m ≤ 8 ∧ i = .int .i64 m ∧ c = .int .i64 (hasF M f m)) (fun _ _ _ _ i => 8 - (intOf i).toNat)
  case atStart => exact ⟨0, by omega, rfl, rfl⟩
  case round =>
    obtain ⟨m, hm, rfl, rfl⟩ := hrel
    have hc := hasF_le M f m
    by_cases hlt : m < 8
    · obtain ⟨d1, d2⟩ := HD.out m hlt
      have HX : Hid (hasF M f (m + 1) = hasF M f m + if M m = some f then 1 else 0) := rfl
      have hm0 : (0 : Int) ≤ m := by omega
      have hm1 : (m : Int) < 8 := by omega
      cases hM : M m with
      | none =>
        rw [hM] at d1
        have HB := Lib.hid d1
        have e : hasF M f (m + 1) = hasF M f m := by rw [HX.out, hM]; simp
        have HE := Lib.hid e
        clear d1 d2 hM e HX
        go_wp2_with (at_lookup; refine wpList_lookup_own_ok_int _ rfl _ _ 23 rfl 3 3 .i64 law3 Try.underlying23 Try.underlying3 (zero3 _) mb n D rfl HO.out _ _ rfl (keyOf_int_mk Try.underlying3 (wf_small _ (by omega) (by omega))) ?_; intro c hat hwc; rw [HB.out]; clear hat hwc)
        go_round
        case rel => exact ⟨m + 1, by omega, by go_num, by rw [HE.out]⟩
        case measure => simp [intOf]; omega
      | some g =>
        rw [hM] at d1
        have HB := Lib.hid d1
        have HF := Lib.hid (d2 g hM)
        by_cases hg : g = f
        · have e : hasF M f (m + 1) = hasF M f m + 1 := by rw [HX.out, hM, hg]; simp
          have HE := Lib.hid e
          have b1 : (g == f) = true := by simp [hg]
          clear d1 d2 hM e HX hg
          go_wp2_with (at_lookup; refine wpList_lookup_own_ok_int _ rfl _ _ 23 rfl 3 3 .i64 law3 Try.underlying23 Try.underlying3 (zero3 _) mb n D rfl HO.out _ _ rfl (keyOf_int_mk Try.underlying3 (wf_small _ (by omega) (by omega))) ?_; intro c hat hwc; rw [HB.out]; rw [HF.out] at hat; injection hat with hat; injection hat with _ hat; subst hat; clear hwc)
          go_round
          case rel => exact ⟨m + 1, by omega, by go_num, by rw [HE.out]; go_num⟩
          case measure => simp [intOf]; omega
        · have e : hasF M f (m + 1) = hasF M f m := by rw [HX.out, hM]; simp [hg]
          have HE := Lib.hid e
          have b1 : (g == f) = false := by simp [hg]
          clear d1 d2 hM e HX hg
          go_wp2_with (at_lookup; refine wpList_lookup_own_ok_int _ rfl _ _ 23 rfl 3 3 .i64 law3 Try.underlying23 Try.underlying3 (zero3 _) mb n D rfl HO.out _ _ rfl (keyOf_int_mk Try.underlying3 (wf_small _ (by omega) (by omega))) ?_; intro c hat hwc; rw [HB.out]; rw [HF.out] at hat; injection hat with hat; injection hat with _ hat; subst hat; clear hwc)
          go_round
          case rel => exact ⟨m + 1, by omega, by go_num, by rw [HE.out]⟩
          case measure => simp [intOf]; omega
    · have hk8 : m = 8 := by omega
      go_wp2
      go_ret
      exact ⟨by first | rfl | (rw [hk8]; rfl), rfl⟩
end Go.Proofs.Ythoklnnnnkfhcaa.C

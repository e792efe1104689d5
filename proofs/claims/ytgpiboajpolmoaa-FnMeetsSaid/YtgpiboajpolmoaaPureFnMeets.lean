/- Spans that are cut contain the dots in the range. (P9) This is its pure statement, over numbers and lists, as printed from the program; the row is built on it.
   Conditions: none. -/
import Derived.Test.YtgpiboajpolmoaaGFnMeetsx3
namespace Go.Proofs.Ytgpiboajpolmoaa.Pure
set_option linter.unusedSimpArgs false
set_option linter.unusedVariables false
open Go.RowKit Go.Proofs.Ytgpiboajpolmoaa.GFnMeets Go.Proofs.YtgpiboajpolmoaaW.PrintWords Go.Proofs.YtgpiboajpolmoaaW.PrintLast

theorem wrap_id {x : Int} (h0 : -9223372036854775808 ≤ x) (h1 : x ≤ 9223372036854775807) : wrap64 x = x := by
  unfold wrap64
  omega
theorem wrap_succ (i : Nat) (h : i < 4611686018427387904) : wrap64 ((i : Int) + 1) = ((i + 1 : Nat) : Int) := by
  rw [wrap_id (by omega) (by omega)]
  omega
theorem rd_lt (l : List Int) (i : Nat) (h : i < l.length) : rd l (i : Int) = l[i] := by
  unfold rd
  rw [Int.toNat_natCast, List.getD_eq_getElem?_getD, List.getElem?_eq_getElem h]
  rfl
theorem set_take {α : Type} (l x : List α) (i : Nat) (hi : i < l.length) (hx : x.length = l.length) (h : x.take i = l.take i) :
    (x.set i l[i]).take (i + 1) = l.take (i + 1) := by
  rw [List.take_succ_eq_append_getElem (by simp; omega), List.take_succ_eq_append_getElem hi, List.getElem_set_self, List.take_set_of_le (Nat.le_refl i), h]
def allFrom (p : Nat → Bool) (n i : Nat) : Bool := (List.range' i (n - i)).all p
theorem all_end (p : Nat → Bool) (n : Nat) : allFrom p n n = true := by simp [allFrom]
theorem all_step (p : Nat → Bool) (n i : Nat) (h : i < n) : allFrom p n i = (p i && allFrom p n (i + 1)) := by
  unfold allFrom
  rw [show n - i = (n - (i + 1)) + 1 by omega, List.range'_succ, List.all_cons]
theorem all_iff (p : Nat → Bool) (n i : Nat) : allFrom p n i = true ↔ ∀ j, i ≤ j → j < n → p j = true := by
  unfold allFrom
  rw [List.all_eq_true]
  constructor
  · intro h j h1 h2
    exact h j (List.mem_range'_1.2 ⟨h1, by omega⟩)
  · intro h j hj
    have := List.mem_range'_1.1 hj
    exact h j this.1 (by omega)
theorem and_low (x : Int) : 0 ≤ Go.bits .and .i64 x 255 ∧ Go.bits .and .i64 x 255 ≤ 255 := by
  have h : ((BitVec.ofInt 64 x) &&& (BitVec.ofInt 64 255)).toNat ≤ 255 := by
    rw [BitVec.toNat_and]
    exact Nat.and_le_right
  have e : Go.bits .and .i64 x 255 = IntKind.i64.wrap ((((BitVec.ofInt 64 x) &&& (BitVec.ofInt 64 255)).toNat : Nat) : Int) := rfl
  rw [e]
  generalize ((BitVec.ofInt 64 x) &&& (BitVec.ofInt 64 255)).toNat = n at h
  have e2 : IntKind.i64.wrap ((n : Nat) : Int) = n := by
    simp only [IntKind.wrap, IntKind.bits, IntKind.signed]
    simp
    omega
  rw [e2]
  omega
theorem draw_new (l : List Int) (hl : l.length ≤ 1048576) : ∃ h, Ev (fun k => spec_l01New.f k l) (l, 0, h) := by
  unfold spec_l01New.f
  have loop : ∀ (d i : Nat) (h : Int), i + d = l.length → ∃ h', Ev (fun k => spec_l01New.l0 k l h (i : Int)) (l, 0, h') := by
    intro d
    induction d with
    | zero =>
      intro i h hi
      refine ⟨h, Ev.step (fun k => spec_l01New.l0.eq_2 _ _ _ k) ?_⟩
      simp only [if_neg (show ¬ (i : Int) < (l.length : Int) by omega)]
      exact Ev.now _
    | succ d ih =>
      intro i h hi
      by_cases hc : (i : Int) < 4000
      · obtain ⟨h', hh⟩ := ih (i + 1) (Go.bits .and .i64 (wrap64 ((wrap64 ((wrap64 (h * 131)) + (wrap64 (rd l i)))) + 7)) 1073741823) (by omega)
        refine ⟨h', Ev.step (fun k => spec_l01New.l0.eq_2 _ _ _ k) ?_⟩
        simp only [if_pos (show (i : Int) < (l.length : Int) by omega), if_pos hc, if_pos (show (0 : Int) ≤ (i : Int) by omega)]
        rw [wrap_succ i (by omega)]
        exact hh
      · refine ⟨h, Ev.step (fun k => spec_l01New.l0.eq_2 _ _ _ k) ?_⟩
        simp only [if_pos (show (i : Int) < (l.length : Int) by omega), if_neg hc]
        exact Ev.now _
  exact loop l.length 0 _ (by omega)
/-- A place in the bytes of a draw. -/
def Cur (l : List Int) (i : Int) : Prop := 0 ≤ i ∧ i ≤ (l.length : Int)
theorem draw_byte (l : List Int) (hl : l.length ≤ 1048576) (i h : Int) (hi : Cur l i) : ∃ v i' h', spec_l01Byte.f l i h = some (v, i', h') ∧ Cur l i' ∧ 0 ≤ v ∧ v ≤ 255 := by
  unfold spec_l01Byte.f
  unfold Cur at *
  by_cases hc : i < (l.length : Int)
  · rw [if_pos hc, if_pos hi.1]
    exact ⟨_, _, _, rfl, by rw [wrap_id (by omega) (by omega)]; omega, (and_low _).1, (and_low _).2⟩
  · rw [if_neg hc]
    exact ⟨_, _, _, rfl, hi, (and_low _).1, (and_low _).2⟩
theorem tmod_low (v n : Int) (h0 : 0 ≤ v) (hn : 0 < n) : 0 ≤ Int.tmod v n ∧ Int.tmod v n < n :=
  ⟨Int.tmod_nonneg n h0, Int.tmod_lt_of_pos v hn⟩
theorem draw_below (l : List Int) (hl : l.length ≤ 1048576) (i h n : Int) (hi : Cur l i) (hn : 0 < n) : ∃ v i' h', spec_l01Below.f l i h n = some (v, i', h') ∧ Cur l i' ∧ 0 ≤ v ∧ v < n := by
  unfold spec_l01Below.f
  rw [if_neg (by omega)]
  by_cases hc : n ≤ 256
  · rw [if_pos hc]
    obtain ⟨v, i1, h1, e, c1, v0, v1⟩ := draw_byte l hl i h hi
    rw [e]
    simp only [Option.bind_some]
    rw [if_neg (by omega)]
    exact ⟨_, _, _, rfl, c1, tmod_low v n v0 hn⟩
  · rw [if_neg hc]
    obtain ⟨a, i1, h1, e1, c1, a0, a1⟩ := draw_byte l hl i h hi
    obtain ⟨b, i2, h2, e2, c2, b0, b1⟩ := draw_byte l hl i1 h1 c1
    obtain ⟨c, i3, h3, e3, c3, x0, x1⟩ := draw_byte l hl i2 h2 c2
    obtain ⟨d, i4, h4, e4, c4, d0, d1⟩ := draw_byte l hl i3 h3 c3
    simp only [e1, e2, e3, e4, Option.bind_some]
    rw [if_neg (by omega)]
    refine ⟨_, _, _, rfl, c4, ?_⟩
    rw [wrap_id (x := a * 16777216) (by omega) (by omega), wrap_id (x := b * 65536) (by omega) (by omega), wrap_id (x := c * 256) (by omega) (by omega),
      wrap_id (x := a * 16777216 + b * 65536) (by omega) (by omega), wrap_id (x := a * 16777216 + b * 65536 + c * 256) (by omega) (by omega), wrap_id (by omega) (by omega)]
    exact tmod_low _ n (by omega) hn
theorem draw_places (l : List Int) (hl : l.length ≤ 1048576) : ∃ q, Ev (fun k => spec_DrawPlaces.f k l) q ∧ q.length = 12 ∧ ∀ p ∈ q, 0 ≤ p ∧ p < 10000 := by
  obtain ⟨h0, e0⟩ := draw_new l hl
  have loop : ∀ (d j : Nat) (i h : Int) (q : List Int), Cur l i → j + d = 12 → q.length = j → (∀ p ∈ q, 0 ≤ p ∧ p < 10000) →
      ∃ q', Ev (fun k => spec_DrawPlaces.l0 k q (j : Int) l i h) q' ∧ q'.length = 12 ∧ (∀ p ∈ q', 0 ≤ p ∧ p < 10000) := by
    intro d
    induction d with
    | zero =>
      intro j i h q hc hj hq hp
      refine ⟨q, Ev.step (fun k => spec_DrawPlaces.l0.eq_2 _ _ _ _ _ k) ?_, by omega, hp⟩
      simp only [if_neg (show ¬ (j : Int) < 12 by omega)]
      exact Ev.now _
    | succ d ih =>
      intro j i h q hc hj hq hp
      obtain ⟨v, i2, h2, e2, c2, v0, v1⟩ := draw_below l hl i h 10000 hc (by omega)
      obtain ⟨q', e', hl', hp'⟩ := ih (j + 1) i2 h2 (q ++ [v]) c2 (by omega) (by simp; omega) (by
        intro p hm
        rw [List.mem_append] at hm
        rcases hm with hm | hm
        · exact hp p hm
        · rw [List.mem_singleton] at hm
          subst hm
          exact ⟨v0, v1⟩)
      refine ⟨q', Ev.step (fun k => spec_DrawPlaces.l0.eq_2 _ _ _ _ _ k) ?_, hl', hp'⟩
      simp only [if_pos (show (j : Int) < 12 by omega), e2, Option.bind_some, if_pos (show q.length < 17592186044416 by omega)]
      rw [wrap_succ j (by omega)]
      exact e'
  obtain ⟨q, e, hlen, hp⟩ := loop 12 0 0 h0 [] ⟨by omega, by omega⟩ (by omega) rfl (by simp)
  refine ⟨q, ?_, hlen, hp⟩
  unfold spec_DrawPlaces.f
  exact Ev.bind e0 e
theorem place_at (q : List Int) (hq : q.length = 12) (hp : ∀ p ∈ q, 0 ≤ p ∧ p < 10000) (i : Nat) (hi : i < 12) : 0 ≤ rd q (i : Int) ∧ rd q (i : Int) < 10000 := by
  rw [rd_lt q i (by omega)]
  exact hp _ (List.getElem_mem _)
theorem rdiSpan_lt (l : List S93) (i : Nat) (h : i < l.length) : rd_T93 l (i : Int) = l[i] := by
  unfold rd_T93
  rw [Int.toNat_natCast, List.getD_eq_getElem?_getD, List.getElem?_eq_getElem h]
  rfl
def spanAt (l : List S93) (i : Nat) : Bool :=
  decide ((rd_T93 l (i : Int)).f0 < (rd_T93 l (i : Int)).f1) && (decide (i = 0) || decide ((rd_T93 l ((i - 1 : Nat) : Int)).f1 < (rd_T93 l (i : Int)).f0))
def spansB (l : List S93) : Bool := decide (l.length ≤ 8) && allFrom (spanAt l) l.length 0
theorem wrap_pred (i : Nat) (h0 : 0 < i) (h : i < 4611686018427387904) : wrap64 ((i : Int) - 1) = ((i - 1 : Nat) : Int) := by
  rw [wrap_id (by omega) (by omega)]
  omega
theorem impl_spans_loop (l : List S93) (hl : l.length ≤ 1048576) : ∀ (d i : Nat), i + d = l.length →
    Ev (fun k => impl_SpansOk.l0 k l l (l.length : Int) (i : Int)) (allFrom (spanAt l) l.length i) := by
  intro d
  induction d with
  | zero =>
    intro i hi
    refine Ev.step (fun k => impl_SpansOk.l0.eq_2 _ _ _ _ k) ?_
    simp only [if_neg (show ¬ (i : Int) < (l.length : Int) by omega)]
    rw [show i = l.length by omega, all_end]
    exact Ev.now _
  | succ d ih =>
    intro i hi
    have hn := ih (i + 1) (by omega)
    refine Ev.step (fun k => impl_SpansOk.l0.eq_2 _ _ _ _ k) ?_
    simp only [if_pos (show (i : Int) < (l.length : Int) by omega), if_pos (show (0 : Int) ≤ (i : Int) by omega)]
    rw [wrap_succ i (by omega), all_step _ _ _ (show i < l.length by omega)]
    by_cases h1 : (rd_T93 l (i : Int)).f0 ≥ (rd_T93 l (i : Int)).f1
    · simp only [if_pos h1]
      rw [show spanAt l i = false by unfold spanAt; rw [decide_eq_false (by omega)]; rfl]
      simp only [Bool.false_and]
      exact Ev.now _
    · simp only [if_neg h1]
      by_cases h2 : i = 0
      · subst h2
        simp only [if_neg (show ¬ ((0 : Nat) : Int) > 0 by omega)]
        rw [show spanAt l 0 = true by unfold spanAt; rw [decide_eq_true (by omega)]; rfl, Bool.true_and]
        exact hn
      · rw [wrap_pred i (by omega) (by omega)]
        simp only [if_pos (show (i : Int) > 0 by omega), if_pos (show (0 : Int) ≤ ((i - 1 : Nat) : Int) by omega), if_pos (show ((i - 1 : Nat) : Int) < (l.length : Int) by omega)]
        by_cases h3 : (rd_T93 l ((i - 1 : Nat) : Int)).f1 ≥ (rd_T93 l (i : Int)).f0
        · simp only [if_pos h3]
          rw [show spanAt l i = false by unfold spanAt; rw [decide_eq_false h2, decide_eq_false (show ¬ (rd_T93 l ((i - 1 : Nat) : Int)).f1 < (rd_T93 l (i : Int)).f0 by omega)]; simp]
          simp only [Bool.false_and]
          exact Ev.now _
        · simp only [if_neg h3]
          rw [show spanAt l i = true by unfold spanAt; rw [decide_eq_true (show (rd_T93 l (i : Int)).f0 < (rd_T93 l (i : Int)).f1 by omega), decide_eq_true (show (rd_T93 l ((i - 1 : Nat) : Int)).f1 < (rd_T93 l (i : Int)).f0 by omega)]; simp, Bool.true_and]
          exact hn
theorem impl_spans (l : List S93) : Ev (fun k => impl_SpansOk.f k l) (spansB l) := by
  unfold impl_SpansOk.f spansB
  by_cases h : l.length ≤ 8
  · simp only [if_neg (show ¬ (l.length : Int) > 8 by omega), decide_eq_true h, Bool.true_and]
    exact impl_spans_loop l (by omega) l.length 0 (by omega)
  · simp only [if_pos (show (l.length : Int) > 8 by omega), decide_eq_false h, Bool.false_and]
    exact Ev.now _
def overB (l : List S93) (x : Int) (i : Nat) : Bool := decide ((rd_T93 l (i : Int)).f0 ≤ x ∧ x < (rd_T93 l (i : Int)).f1)
def inSpansB (l : List S93) (x : Int) : Bool := !allFrom (fun i => !overB l x i) l.length 0
theorem impl_in_loop (l : List S93) (x : Int) (hl : l.length ≤ 1048576) : ∀ (d i : Nat), i + d = l.length →
    Ev (fun k => impl_InSpans.l0 k x l (l.length : Int) (i : Int)) (!allFrom (fun i => !overB l x i) l.length i) := by
  intro d
  induction d with
  | zero =>
    intro i hi
    refine Ev.step (fun k => impl_InSpans.l0.eq_2 _ _ _ _ k) ?_
    simp only [if_neg (show ¬ (i : Int) < (l.length : Int) by omega)]
    rw [show i = l.length by omega, all_end]
    exact Ev.now _
  | succ d ih =>
    intro i hi
    have hn := ih (i + 1) (by omega)
    refine Ev.step (fun k => impl_InSpans.l0.eq_2 _ _ _ _ k) ?_
    simp only [if_pos (show (i : Int) < (l.length : Int) by omega), if_pos (show (0 : Int) ≤ (i : Int) by omega)]
    rw [wrap_succ i (by omega), all_step _ _ _ (show i < l.length by omega)]
    by_cases h1 : x ≥ (rd_T93 l (i : Int)).f0
    · simp only [if_pos h1]
      by_cases h2 : x < (rd_T93 l (i : Int)).f1
      · simp only [if_pos h2]
        rw [show overB l x i = true from decide_eq_true (by omega)]
        exact Ev.now _
      · simp only [if_neg h2]
        rw [show overB l x i = false from decide_eq_false (by omega)]
        exact hn
    · simp only [if_neg h1]
      rw [show overB l x i = false from decide_eq_false (by omega)]
      exact hn
theorem impl_inspans (l : List S93) (x : Int) (hl : l.length ≤ 1048576) : Ev (fun k => impl_InSpans.f k l x) (inSpansB l x) := by
  unfold impl_InSpans.f inSpansB
  exact impl_in_loop l x hl l.length 0 (by omega)
def dotsTo (l : List S93) : Nat → Int
  | 0 => 0
  | i + 1 => wrap64 (dotsTo l i + wrap64 ((rd_T93 l (i : Int)).f1 - (rd_T93 l (i : Int)).f0))
def dotsOf (l : List S93) : Int := if spansB l = true then dotsTo l l.length else 0
theorem impl_dots_loop (l : List S93) (hl : l.length ≤ 1048576) : ∀ (d i : Nat), i + d = l.length →
    Ev (fun k => impl_SpanDots.l0 k (dotsTo l i) l (l.length : Int) (i : Int)) (dotsTo l l.length) := by
  intro d
  induction d with
  | zero =>
    intro i hi
    refine Ev.step (fun k => impl_SpanDots.l0.eq_2 _ _ _ _ k) ?_
    simp only [if_neg (show ¬ (i : Int) < (l.length : Int) by omega)]
    rw [show i = l.length by omega]
    exact Ev.now _
  | succ d ih =>
    intro i hi
    refine Ev.step (fun k => impl_SpanDots.l0.eq_2 _ _ _ _ k) ?_
    simp only [if_pos (show (i : Int) < (l.length : Int) by omega), if_pos (show (0 : Int) ≤ (i : Int) by omega)]
    rw [wrap_succ i (by omega)]
    exact ih (i + 1) (by omega)
theorem impl_dots (l : List S93) : Ev (fun k => impl_SpanDots.f k l) (dotsOf l) := by
  unfold impl_SpanDots.f dotsOf
  refine Ev.bind (impl_spans l) ?_
  cases h : spansB l
  · simp only [Bool.false_eq_true, if_false]
    exact Ev.now _
  · simp only [if_true]
    have h8 : l.length ≤ 8 := by
      unfold spansB at h
      rw [Bool.and_eq_true] at h
      exact of_decide_eq_true h.1
    exact impl_dots_loop l (by omega) l.length 0 (by omega)
def cutS (a b : Int) (s : S93) : S93 := ⟨mx s.f0 a, mn s.f1 b⟩
def goodS (s : S93) : Bool := decide (s.f0 < s.f1)
def meetM (l : List S93) (a b : Int) : List S93 := (l.map (cutS a b)).filter goodS
def meetSM (l : List S93) (a b : Int) : List S93 := if spansB l = true then meetM l a b else []
theorem meet_next (l : List S93) (a b : Int) (i : Nat) (h : i < l.length) : meetM (l.take (i + 1)) a b = if goodS (cutS a b l[i]) = true then meetM (l.take i) a b ++ [cutS a b l[i]] else meetM (l.take i) a b := by
  unfold meetM
  rw [List.take_succ_eq_append_getElem h, List.map_append, List.filter_append]
  simp only [List.map_cons, List.map_nil, List.filter_cons, List.filter_nil]
  split
  · rfl
  · simp
theorem meet_len (l : List S93) (a b : Int) : (meetM l a b).length ≤ l.length := by
  unfold meetM
  exact Nat.le_trans (List.length_filter_le _ _) (by simp)
theorem impl_meet_loop (l : List S93) (a b : Int) (hl : l.length ≤ 1048576) : ∀ (d i : Nat), i + d = l.length →
    Ev (fun k => impl_MeetSpans.l0 k a b (meetM (l.take i) a b) l (l.length : Int) (i : Int)) (meetM l a b) := by
  intro d
  induction d with
  | zero =>
    intro i hi
    refine Ev.step (fun k => impl_MeetSpans.l0.eq_2 _ _ _ _ _ _ k) ?_
    simp only [if_neg (show ¬ (i : Int) < (l.length : Int) by omega)]
    rw [List.take_of_length_le (by omega)]
    exact Ev.now _
  | succ d ih =>
    intro i hi
    have hn := ih (i + 1) (by omega)
    rw [meet_next l a b i (by omega)] at hn
    refine Ev.step (fun k => impl_MeetSpans.l0.eq_2 _ _ _ _ _ _ k) ?_
    have hlen : (meetM (l.take i) a b).length < 8796093022208 := by
      have := meet_len (l.take i) a b
      rw [List.length_take] at this
      omega
    simp only [if_pos (show (i : Int) < (l.length : Int) by omega), if_pos (show (0 : Int) ≤ (i : Int) by omega), if_pos hlen]
    rw [wrap_succ i (by omega), rdiSpan_lt l i (by omega)]
    by_cases hc : mx l[i].f0 a < mn l[i].f1 b
    · simp only [if_pos hc]
      rw [if_pos (show goodS (cutS a b l[i]) = true from decide_eq_true hc)] at hn
      exact hn
    · simp only [if_neg hc]
      rw [if_neg (show ¬ goodS (cutS a b l[i]) = true by unfold goodS; rw [decide_eq_true_eq]; exact hc)] at hn
      exact hn
theorem impl_meetspans (l : List S93) (a b : Int) : Ev (fun k => impl_MeetSpans.f k l a b) (meetSM l a b) := by
  unfold impl_MeetSpans.f meetSM
  refine Ev.bind (impl_spans l) ?_
  cases h : spansB l
  · simp only [Bool.false_eq_true, if_false]
    exact Ev.now _
  · simp only [if_true]
    have h8 : l.length ≤ 8 := by
      unfold spansB at h
      rw [Bool.and_eq_true] at h
      exact of_decide_eq_true h.1
    exact impl_meet_loop l a b (by omega) l.length 0 (by omega)
theorem sp_spans (l : List S93) (h8 : l.length ≤ 8) (hg : ∀ e ∈ l, e.f0 < e.f1) (hp : l.Pairwise (fun a b => a.f1 < b.f0)) : spansB l = true := by
  unfold spansB
  rw [decide_eq_true h8, Bool.true_and, all_iff]
  intro i _ hi
  unfold spanAt
  rw [rdiSpan_lt l i hi]
  have h1 := hg l[i] (List.getElem_mem _)
  rw [decide_eq_true h1, Bool.true_and]
  by_cases h0 : i = 0
  · rw [decide_eq_true h0]
    rfl
  · rw [rdiSpan_lt l (i - 1) (by omega)]
    have := List.pairwise_iff_getElem.1 hp (i - 1) i (by omega) hi (by omega)
    rw [decide_eq_true this, Bool.or_true]
theorem inspans_iff (l : List S93) (x : Int) : inSpansB l x = true ↔ ∃ e ∈ l, e.f0 ≤ x ∧ x < e.f1 := by
  unfold inSpansB
  rw [Bool.not_eq_true', ← Bool.not_eq_true, all_iff]
  constructor
  · intro h
    refine Classical.byContradiction fun hn => h fun i _ hi => ?_
    unfold overB
    rw [rdiSpan_lt l i hi, decide_eq_false (fun hc => hn ⟨l[i], List.getElem_mem _, hc⟩)]
    rfl
  · rintro ⟨e, he, h1, h2⟩ h
    obtain ⟨i, hi, rfl⟩ := List.getElem_of_mem he
    have h3 := h i (by omega) hi
    unfold overB at h3
    rw [rdiSpan_lt l i hi, decide_eq_true ⟨h1, h2⟩] at h3
    cases h3
theorem mx_le (a b x : Int) : mx a b ≤ x ↔ a ≤ x ∧ b ≤ x := by
  unfold mx
  split <;> omega
theorem lt_mn (a b x : Int) : x < mn a b ↔ x < a ∧ x < b := by
  unfold mn
  split <;> omega
theorem meet_in (l : List S93) (a b x : Int) : inSpansB (meetM l a b) x = (inSpansB l x && decide (a ≤ x ∧ x < b)) := by
  rw [Bool.eq_iff_iff, Bool.and_eq_true, inspans_iff, inspans_iff, decide_eq_true_eq]
  unfold meetM
  constructor
  · rintro ⟨e, he, h1, h2⟩
    rw [List.mem_filter, List.mem_map] at he
    obtain ⟨⟨u, hu, rfl⟩, hg⟩ := he
    have h1 := (mx_le _ _ _).1 h1
    have h2 := (lt_mn _ _ _).1 h2
    exact ⟨⟨u, hu, h1.1, h2.1⟩, h1.2, h2.2⟩
  · rintro ⟨⟨u, hu, h1, h2⟩, h3, h4⟩
    have g1 : mx u.f0 a ≤ x := (mx_le _ _ _).2 ⟨h1, h3⟩
    have g2 : x < mn u.f1 b := (lt_mn _ _ _).2 ⟨h2, h4⟩
    exact ⟨cutS a b u, List.mem_filter.2 ⟨List.mem_map.2 ⟨u, hu, rfl⟩, decide_eq_true (show mx u.f0 a < mn u.f1 b by omega)⟩, g1, g2⟩
theorem meet_good (l : List S93) (a b : Int) : ∀ e ∈ meetM l a b, e.f0 < e.f1 := by
  intro e he
  unfold meetM at he
  exact of_decide_eq_true (List.mem_filter.1 he).2
theorem meet_pair (l : List S93) (a b : Int) (hp : l.Pairwise (fun a b => a.f1 < b.f0)) : (meetM l a b).Pairwise (fun a b => a.f1 < b.f0) := by
  unfold meetM
  refine List.Pairwise.filter _ ?_
  rw [List.pairwise_map]
  refine hp.imp ?_
  intro u v h
  have h1 : mn u.f1 b ≤ u.f1 := by
    unfold mn
    split <;> omega
  have h2 : v.f0 ≤ mx v.f0 a := by
    unfold mx
    split <;> omega
  show mn u.f1 b < mx v.f0 a
  omega
def sumS : List S93 → Int
  | [] => 0
  | e :: l => (e.f1 - e.f0) + sumS l
theorem sum_app (l : List S93) (e : S93) : sumS (l ++ [e]) = sumS l + (e.f1 - e.f0) := by
  induction l with
  | nil => simp [sumS]
  | cons u l ih => simp only [List.cons_append, sumS, ih]; omega
def tame (e : S93) : Prop := -1000 ≤ e.f0 ∧ e.f0 ≤ 1000 ∧ -1000 ≤ e.f1 ∧ e.f1 ≤ 1000
theorem dots_sum (l : List S93) (h : ∀ e ∈ l, tame e) (hl : l.length ≤ 1000) : ∀ n, n ≤ l.length →
    dotsTo l n = sumS (l.take n) ∧ -(2000 * (n : Int)) ≤ sumS (l.take n) ∧ sumS (l.take n) ≤ 2000 * n
  | 0, _ => ⟨by simp [dotsTo, sumS], by simp [sumS], by simp [sumS]⟩
  | n + 1, hn => by
    have ih := dots_sum l h hl n (by omega)
    have b := h l[n] (List.getElem_mem _)
    unfold tame at b
    rw [dotsTo, rdiSpan_lt l n (by omega), List.take_succ_eq_append_getElem (by omega), sum_app, ih.1, wrap_id (x := l[n].f1 - l[n].f0) (by omega) (by omega), wrap_id (by omega) (by omega)]
    exact ⟨rfl, by omega, by omega⟩
theorem dots_is (l : List S93) (h : ∀ e ∈ l, tame e) (hs : spansB l = true) (h8 : l.length ≤ 8) : dotsOf l = sumS l := by
  unfold dotsOf
  rw [if_pos hs, (dots_sum l h (by omega) l.length (by omega)).1, List.take_length]
theorem sum_meet (a b : Int) : ∀ l : List S93, (∀ e ∈ l, e.f0 < e.f1) → sumS (meetM l a b) ≤ sumS l := by
  intro l
  induction l with
  | nil => intro _; simp [meetM, sumS]
  | cons e l ih =>
    intro h
    have h1 := ih fun u hu => h u (List.mem_cons_of_mem _ hu)
    have h2 := h e (List.mem_cons_self ..)
    have h3 : mn e.f1 b ≤ e.f1 := by
      unfold mn
      split <;> omega
    have h4 : e.f0 ≤ mx e.f0 a := by
      unfold mx
      split <;> omega
    unfold meetM at h1 ⊢
    rw [List.map_cons, List.filter_cons]
    split
    · simp only [sumS]
      change mn e.f1 b - mx e.f0 a + _ ≤ _
      omega
    · simp only [sumS]
      omega
def Drawn (q : List S93) (x : Int) : Prop := (∀ e ∈ q, -2 ≤ e.f0 ∧ e.f0 < e.f1 ∧ e.f1 < x) ∧ q.Pairwise (fun a b => a.f1 < b.f0)
theorem draw_spans (l : List Int) (hl : l.length ≤ 1048576) : ∃ q, Ev (fun k => spec_DrawSpans.f k l) q ∧ q.length ≤ 8 ∧ Drawn q 1000 := by
  obtain ⟨h0, e0⟩ := draw_new l hl
  have loop : ∀ (d j : Nat) (x i h : Int) (q : List S93), Cur l i → j + d = 5 → q.length = j → -2 ≤ x → x ≤ 4 + 11 * j → Drawn q x →
      ∃ q' i' h', Ev (fun k => spec_l09Spans.l0 k q x (j : Int) l i h) (q', i', h') ∧ q'.length ≤ 8 ∧ Drawn q' 1000 := by
    intro d
    induction d with
    | zero =>
      intro j x i h q hc hj hq hx0 hx1 hd
      obtain ⟨v, i1, h1, e1, c1, v0, v1⟩ := draw_below l hl i h 5 hc (by omega)
      refine ⟨q, i1, h1, Ev.step (fun k => spec_l09Spans.l0.eq_2 _ _ _ _ _ _ k) ?_, by omega, fun e he => ?_, hd.2⟩
      · simp only [e1, Option.bind_some, if_neg (show ¬ (j : Int) < v by omega)]
        exact Ev.now _
      · have := hd.1 e he
        omega
    | succ d ih =>
      intro j x i h q hc hj hq hx0 hx1 hd
      obtain ⟨v, i1, h1, e1, c1, v0, v1⟩ := draw_below l hl i h 5 hc (by omega)
      by_cases hv : (j : Int) < v
      · obtain ⟨a, i2, h2, e2, c2, a0, a1⟩ := draw_below l hl i1 h1 6 c1 (by omega)
        obtain ⟨b, i3, h3, e3, c3, b0, b1⟩ := draw_below l hl i2 h2 5 c2 (by omega)
        have w1 : wrap64 (x + 1) = x + 1 := wrap_id (by omega) (by omega)
        have w2 : wrap64 (x + 1 + a) = x + 1 + a := wrap_id (by omega) (by omega)
        have w3 : wrap64 (x + 1 + a + 1) = x + 1 + a + 1 := wrap_id (by omega) (by omega)
        have w4 : wrap64 (x + 1 + a + 1 + b) = x + 1 + a + 1 + b := wrap_id (by omega) (by omega)
        obtain ⟨q', i', h', e', hl', hp'⟩ := ih (j + 1) (x + 1 + a + 1 + b) i3 h3 (q ++ [⟨x, x + 1 + a⟩]) c3 (by omega) (by simp; omega) (by omega) (by omega) (by
          refine ⟨fun e he => ?_, ?_⟩
          · rw [List.mem_append, List.mem_singleton] at he
            rcases he with he | rfl
            · have := hd.1 e he
              omega
            · simp only
              omega
          · rw [List.pairwise_append]
            refine ⟨hd.2, List.pairwise_singleton _ _, fun e he u hu => ?_⟩
            rw [List.mem_singleton] at hu
            subst hu
            exact (hd.1 e he).2.2)
        refine ⟨q', i', h', Ev.step (fun k => spec_l09Spans.l0.eq_2 _ _ _ _ _ _ k) ?_, hl', hp'⟩
        simp only [e1, e2, e3, Option.bind_some, if_pos hv, if_pos (show q.length < 8796093022208 by omega), w1, w2, w3, w4]
        rw [wrap_succ j (by omega)]
        exact e'
      · refine ⟨q, i1, h1, Ev.step (fun k => spec_l09Spans.l0.eq_2 _ _ _ _ _ _ k) ?_, by omega, fun e he => ?_, hd.2⟩
        · simp only [e1, Option.bind_some, if_neg hv]
          exact Ev.now _
        · have := hd.1 e he
          omega
  obtain ⟨m, i1, h1, e1, c1, m0, m1⟩ := draw_below l hl 0 h0 6 ⟨by omega, by omega⟩ (by omega)
  obtain ⟨q, i', h', e, hlen, hp⟩ := loop 5 0 (m - 2) i1 h1 [] c1 (by omega) rfl (by omega) (by omega) ⟨fun e he => by simp at he, List.Pairwise.nil⟩
  refine ⟨q, ?_, hlen, hp⟩
  unfold spec_DrawSpans.f
  refine Ev.bind e0 ?_
  have e5 : Ev (fun k => spec_l09Spans.f k l 0 h0) (q, i', h') := by
    unfold spec_l09Spans.f
    simp only [e1, Option.bind_some]
    rw [wrap_id (by omega) (by omega)]
    exact e
  refine Ev.bind e5 ?_
  exact Ev.now _
theorem FnMeets : laws_FnMeets.Pure := by
  intro l hm hs hw
  refine Ev.rounds ?_
  unfold laws_FnMeets.f laws_big.f
  simp only [Option.bind_some]
  by_cases hb : (l.length : Int) > 1048576
  · simp only [decide_eq_true hb, if_true]
    exact Ev.now _
  simp only [decide_eq_false hb, Bool.false_eq_true, if_false]
  obtain ⟨q, eq, hq, hqg, hqp⟩ := draw_spans l (by omega)
  obtain ⟨p, ep, hp, hpp⟩ := draw_places l (by omega)
  refine Ev.bind eq ?_
  refine Ev.bind ep ?_
  simp only [if_pos (show 0 < (p.length : Int) by omega), if_pos (show 1 < (p.length : Int) by omega)]
  have a0 := place_at p hp hpp 0 (by omega)
  have b0 := place_at p hp hpp 1 (by omega)
  have ha := tmod_low (rd p 0) 20 a0.1 (by omega)
  have hb := tmod_low (rd p 1) 40 b0.1 (by omega)
  generalize Int.tmod (rd p 0) 20 = a at ha
  generalize Int.tmod (rd p 1) 40 = b at hb
  clear a0 b0
  have hqs : spansB q = true := sp_spans q hq (fun e he => (hqg e he).2.1) hqp
  have mlen := meet_len q a b
  have hms : spansB (meetM q a b) = true := sp_spans _ (by omega) (meet_good q a b) (meet_pair q a b hqp)
  have tq : ∀ e ∈ q, tame e := fun e he => by
    have := hqg e he
    unfold tame
    omega
  have tm : ∀ e ∈ meetM q a b, tame e := fun e he => by
    have hg := meet_good q a b e he
    unfold meetM at he
    rw [List.mem_filter, List.mem_map] at he
    obtain ⟨⟨u, hu, rfl⟩, _⟩ := he
    have := hqg u hu
    change mx u.f0 a < mn u.f1 b at hg
    have h3 : mn u.f1 b ≤ u.f1 := by
      unfold mn
      split <;> omega
    have h4 : u.f0 ≤ mx u.f0 a := by
      unfold mx
      split <;> omega
    show -1000 ≤ mx u.f0 a ∧ mx u.f0 a ≤ 1000 ∧ -1000 ≤ mn u.f1 b ∧ mn u.f1 b ≤ 1000
    omega
  have hmm := impl_meetspans q a b
  unfold meetSM at hmm
  rw [if_pos hqs] at hmm
  refine Ev.bind hmm ?_
  have loop : ∀ (d : Nat) (x : Int), x + d = 60 → -4 ≤ x → Ev (fun k => laws_FnMeets.l0 k q a b (meetM q a b) x) true := by
    intro d
    induction d with
    | zero =>
      intro x hx hx0
      refine Ev.step (fun k => laws_FnMeets.l0.eq_2 _ _ _ _ _ k) ?_
      simp only [if_neg (show ¬ x < 60 by omega)]
      refine Ev.bind (impl_spans _) ?_
      simp only [hms, if_true]
      refine Ev.bind (impl_dots _) ?_
      refine Ev.bind (impl_dots _) ?_
      rw [dots_is q tq hqs hq, dots_is _ tm hms (by omega), decide_eq_true (sum_meet a b q fun e he => (hqg e he).2.1)]
      exact Ev.now _
    | succ d ih =>
      intro x hx hx0
      have hn := ih (x + 1) (by omega) (by omega)
      refine Ev.step (fun k => laws_FnMeets.l0.eq_2 _ _ _ _ _ k) ?_
      simp only [if_pos (show x < 60 by omega)]
      refine Ev.bind (impl_inspans _ x (by omega)) ?_
      refine Ev.bind (impl_inspans _ x (by omega)) ?_
      rw [meet_in]
      rw [wrap_id (x := x + 1) (by omega) (by omega)]
      cases inSpansB q x with
      | false =>
        simp only [Bool.false_and, bne_self_eq_false, Bool.false_eq_true, if_false]
        exact hn
      | true =>
        simp only [Bool.true_and, if_true]
        by_cases h1 : x ≥ a
        · simp only [if_pos h1]
          rw [show decide (a ≤ x ∧ x < b) = decide (x < b) from decide_eq_decide.2 ⟨fun h => h.2, fun h => ⟨h1, h⟩⟩]
          simp only [bne_self_eq_false, Bool.false_eq_true, if_false]
          exact hn
        · simp only [if_neg h1]
          rw [decide_eq_false (fun h => h1 h.1)]
          simp only [bne_self_eq_false, Bool.false_eq_true, if_false]
          exact hn
  exact loop 64 (-4) (by omega) (by omega)

end Go.Proofs.Ytgpiboajpolmoaa.Pure

/- The program's SpanDots returns what the reference's returns, for all arguments. This is its pure statement, over numbers and lists, as printed from the program; the row is built on it.
   Conditions: none. -/
import Derived.Test.YtmgjdmmggdmheaaPFnExactSpanDotsx2
namespace Go.Proofs.Ytmgjdmmggdmheaa.Pure
set_option linter.unusedSimpArgs false
set_option linter.unusedVariables false
open Go.RowKit Go.Proofs.Ytmgjdmmggdmheaa.PFnExactSpanDots Go.Proofs.YtmgjdmmggdmheaaW.PrintWords Go.Proofs.YtmgjdmmggdmheaaW.PrintLast

theorem wrap_id {x : Int} (h0 : -9223372036854775808 ≤ x) (h1 : x ≤ 9223372036854775807) : wrap64 x = x := by
  unfold wrap64
  omega
theorem wrap_succ (i : Nat) (h : i < 4611686018427387904) : wrap64 ((i : Int) + 1) = ((i + 1 : Nat) : Int) := by
  rw [wrap_id (by omega) (by omega)]
  omega
theorem rd_lt (l : List Int) (i : Nat) (h : i < l.length) : rd l (i : Int) = l[i] := by
  unfold rd
  rw [Int.toNat_natCast, List.getD_eq_getElem?_getD, List.getElem?_eq_getElem h]
  rfl
theorem set_take {α : Type} (l x : List α) (i : Nat) (hi : i < l.length) (hx : x.length = l.length) (h : x.take i = l.take i) :
    (x.set i l[i]).take (i + 1) = l.take (i + 1) := by
  rw [List.take_succ_eq_append_getElem (by simp; omega), List.take_succ_eq_append_getElem hi, List.getElem_set_self, List.take_set_of_le (Nat.le_refl i), h]
def allFrom (p : Nat → Bool) (n i : Nat) : Bool := (List.range' i (n - i)).all p
theorem all_end (p : Nat → Bool) (n : Nat) : allFrom p n n = true := by simp [allFrom]
theorem all_step (p : Nat → Bool) (n i : Nat) (h : i < n) : allFrom p n i = (p i && allFrom p n (i + 1)) := by
  unfold allFrom
  rw [show n - i = (n - (i + 1)) + 1 by omega, List.range'_succ, List.all_cons]
theorem all_iff (p : Nat → Bool) (n i : Nat) : allFrom p n i = true ↔ ∀ j, i ≤ j → j < n → p j = true := by
  unfold allFrom
  rw [List.all_eq_true]
  constructor
  · intro h j h1 h2
    exact h j (List.mem_range'_1.2 ⟨h1, by omega⟩)
  · intro h j hj
    have := List.mem_range'_1.1 hj
    exact h j this.1 (by omega)
def cvSpan (x : S99) : S84 := ⟨x.f0, x.f1⟩
theorem rdlSpan_lt (l : List S99) (i : Nat) (h : i < l.length) : rd_T99 l (i : Int) = l[i] := by
  unfold rd_T99
  rw [Int.toNat_natCast, List.getD_eq_getElem?_getD, List.getElem?_eq_getElem h]
  rfl
theorem rdiSpan_lt (l : List S84) (i : Nat) (h : i < l.length) : rd_T84 l (i : Int) = l[i] := by
  unfold rd_T84
  rw [Int.toNat_natCast, List.getD_eq_getElem?_getD, List.getElem?_eq_getElem h]
  rfl
theorem toSpan_loop (l : List S99) (hl : l.length ≤ 1048576) : ∀ (d i : Nat) (x : List S84), i + d = l.length → x.length = l.length → x.take i = (l.map cvSpan).take i →
    Ev (fun k => laws_toSpanS.l0 k l x (i : Int)) (l.map cvSpan) := by
  intro d
  induction d with
  | zero =>
    intro i x hi hx ht
    refine Ev.step (fun k => laws_toSpanS.l0.eq_2 _ _ _ k) ?_
    simp only [if_neg (show ¬ (i : Int) < (l.length : Int) by omega)]
    rw [List.take_of_length_le (by omega), List.take_of_length_le (by simp; omega)] at ht
    subst ht
    exact Ev.now _
  | succ d ih =>
    intro i x hi hx ht
    refine Ev.step (fun k => laws_toSpanS.l0.eq_2 _ _ _ k) ?_
    simp only [if_pos (show (i : Int) < (l.length : Int) by omega), if_pos (show (0 : Int) ≤ (i : Int) by omega), if_pos (show (i : Int) < (x.length : Int) by omega), laws_toSpan.f, Option.bind_some]
    rw [wrap_succ i (by omega), rdlSpan_lt l i (by omega), Int.toNat_natCast]
    refine ih (i + 1) _ (by omega) (by simp; omega) ?_
    have := set_take (l.map cvSpan) x i (by simp; omega) (by simp; omega) ht
    rw [List.getElem_map] at this
    exact this
theorem toSpans (l : List S99) (hl : l.length ≤ 1048576) : Ev (fun k => laws_toSpanS.f k l) (l.map cvSpan) := by
  unfold laws_toSpanS.f
  simp only [if_pos (show (0 : Int) ≤ (l.length : Int) by omega), Int.toNat_natCast, if_pos (show l.length ≤ 17592186044416 by omega)]
  exact toSpan_loop l hl l.length 0 _ (by omega) (by simp) (by simp)
theorem eqSpan_loop (l : List S84) (hl : l.length ≤ 1048577) : ∀ (d i : Nat), i + d = l.length →
    Ev (fun k => laws_eqSpanS.l0 k l l (i : Int)) true := by
  intro d
  induction d with
  | zero =>
    intro i hi
    refine Ev.step (fun k => laws_eqSpanS.l0.eq_2 _ _ _ k) ?_
    simp only [if_neg (show ¬ (i : Int) < (l.length : Int) by omega)]
    exact Ev.now _
  | succ d ih =>
    intro i hi
    refine Ev.step (fun k => laws_eqSpanS.l0.eq_2 _ _ _ k) ?_
    simp only [if_pos (show (i : Int) < (l.length : Int) by omega), if_pos (show (0 : Int) ≤ (i : Int) by omega), laws_eqSpan.f, if_true, Option.bind_some]
    rw [wrap_succ i (by omega)]
    exact ih (i + 1) (by omega)
theorem eqSpans (l : List S84) (hl : l.length ≤ 1048577) : Ev (fun k => laws_eqSpanS.f k l l) true := by
  unfold laws_eqSpanS.f
  simp only [if_true]
  exact eqSpan_loop l hl l.length 0 (by omega)
theorem szSpans (l : List S99) (hl : l.length ≤ 9223372036854775807) : laws_szSpanS.f l 1048576 = (some (if (1048576 : Int) - (l.length : Int) < 0 then (-1 : Int) else (1048576 : Int) - (l.length : Int)) : Option Int) := by
  unfold laws_szSpanS.f
  rw [wrap_id (by omega) (by omega)]
  split <;> rfl
def spanAt (l : List S84) (i : Nat) : Bool :=
  decide ((rd_T84 l (i : Int)).f0 < (rd_T84 l (i : Int)).f1) && (decide (i = 0) || decide ((rd_T84 l ((i - 1 : Nat) : Int)).f1 < (rd_T84 l (i : Int)).f0))
def spansB (l : List S84) : Bool := decide (l.length ≤ 8) && allFrom (spanAt l) l.length 0
theorem wrap_pred (i : Nat) (h0 : 0 < i) (h : i < 4611686018427387904) : wrap64 ((i : Int) - 1) = ((i - 1 : Nat) : Int) := by
  rw [wrap_id (by omega) (by omega)]
  omega
theorem spec_spans_loop (l : List S84) (hl : l.length ≤ 1048576) : ∀ (d i : Nat), i + d = l.length →
    Ev (fun k => spec_SpansOk.l0 k l (i : Int)) (decide (l.length ≤ 8) && allFrom (spanAt l) l.length i) := by
  intro d
  induction d with
  | zero =>
    intro i hi
    refine Ev.step (fun k => spec_SpansOk.l0.eq_2 _ _ k) ?_
    simp only [if_neg (show ¬ (i : Int) < (l.length : Int) by omega)]
    rw [show i = l.length by omega, all_end, Bool.and_true]
    have e : decide ((l.length : Int) ≤ 8) = decide (l.length ≤ 8) := decide_eq_decide.2 (by omega)
    rw [e]
    exact Ev.now _
  | succ d ih =>
    intro i hi
    have hn := ih (i + 1) (by omega)
    refine Ev.step (fun k => spec_SpansOk.l0.eq_2 _ _ k) ?_
    simp only [if_pos (show (i : Int) < (l.length : Int) by omega), if_pos (show (0 : Int) ≤ (i : Int) by omega)]
    rw [wrap_succ i (by omega), all_step _ _ _ (show i < l.length by omega)]
    by_cases h1 : (rd_T84 l (i : Int)).f0 ≥ (rd_T84 l (i : Int)).f1
    · simp only [if_pos h1]
      rw [show spanAt l i = false by unfold spanAt; rw [decide_eq_false (by omega)]; rfl]
      simp only [Bool.false_and, Bool.and_false]
      exact Ev.now _
    · simp only [if_neg h1]
      by_cases h2 : i = 0
      · subst h2
        simp only [if_neg (show ¬ ((0 : Nat) : Int) > 0 by omega)]
        rw [show spanAt l 0 = true by unfold spanAt; rw [decide_eq_true (by omega)]; rfl, Bool.true_and]
        exact hn
      · rw [wrap_pred i (by omega) (by omega)]
        simp only [if_pos (show (i : Int) > 0 by omega), if_pos (show (0 : Int) ≤ ((i - 1 : Nat) : Int) by omega), if_pos (show ((i - 1 : Nat) : Int) < (l.length : Int) by omega)]
        by_cases h3 : (rd_T84 l ((i - 1 : Nat) : Int)).f1 ≥ (rd_T84 l (i : Int)).f0
        · simp only [if_pos h3]
          rw [show spanAt l i = false by unfold spanAt; rw [decide_eq_false h2, decide_eq_false (show ¬ (rd_T84 l ((i - 1 : Nat) : Int)).f1 < (rd_T84 l (i : Int)).f0 by omega)]; simp]
          simp only [Bool.false_and, Bool.and_false]
          exact Ev.now _
        · simp only [if_neg h3]
          rw [show spanAt l i = true by unfold spanAt; rw [decide_eq_true (show (rd_T84 l (i : Int)).f0 < (rd_T84 l (i : Int)).f1 by omega), decide_eq_true (show (rd_T84 l ((i - 1 : Nat) : Int)).f1 < (rd_T84 l (i : Int)).f0 by omega)]; simp, Bool.true_and]
          exact hn
theorem spec_spans (l : List S84) (hl : l.length ≤ 1048576) : Ev (fun k => spec_SpansOk.f k l) (spansB l) := by
  unfold spec_SpansOk.f spansB
  exact spec_spans_loop l hl l.length 0 (by omega)
theorem impl_spans_loop (l : List S84) (hl : l.length ≤ 1048576) : ∀ (d i : Nat), i + d = l.length →
    Ev (fun k => impl_SpansOk.l0 k l l (l.length : Int) (i : Int)) (allFrom (spanAt l) l.length i) := by
  intro d
  induction d with
  | zero =>
    intro i hi
    refine Ev.step (fun k => impl_SpansOk.l0.eq_2 _ _ _ _ k) ?_
    simp only [if_neg (show ¬ (i : Int) < (l.length : Int) by omega)]
    rw [show i = l.length by omega, all_end]
    exact Ev.now _
  | succ d ih =>
    intro i hi
    have hn := ih (i + 1) (by omega)
    refine Ev.step (fun k => impl_SpansOk.l0.eq_2 _ _ _ _ k) ?_
    simp only [if_pos (show (i : Int) < (l.length : Int) by omega), if_pos (show (0 : Int) ≤ (i : Int) by omega)]
    rw [wrap_succ i (by omega), all_step _ _ _ (show i < l.length by omega)]
    by_cases h1 : (rd_T84 l (i : Int)).f0 ≥ (rd_T84 l (i : Int)).f1
    · simp only [if_pos h1]
      rw [show spanAt l i = false by unfold spanAt; rw [decide_eq_false (by omega)]; rfl]
      simp only [Bool.false_and]
      exact Ev.now _
    · simp only [if_neg h1]
      by_cases h2 : i = 0
      · subst h2
        simp only [if_neg (show ¬ ((0 : Nat) : Int) > 0 by omega)]
        rw [show spanAt l 0 = true by unfold spanAt; rw [decide_eq_true (by omega)]; rfl, Bool.true_and]
        exact hn
      · rw [wrap_pred i (by omega) (by omega)]
        simp only [if_pos (show (i : Int) > 0 by omega), if_pos (show (0 : Int) ≤ ((i - 1 : Nat) : Int) by omega), if_pos (show ((i - 1 : Nat) : Int) < (l.length : Int) by omega)]
        by_cases h3 : (rd_T84 l ((i - 1 : Nat) : Int)).f1 ≥ (rd_T84 l (i : Int)).f0
        · simp only [if_pos h3]
          rw [show spanAt l i = false by unfold spanAt; rw [decide_eq_false h2, decide_eq_false (show ¬ (rd_T84 l ((i - 1 : Nat) : Int)).f1 < (rd_T84 l (i : Int)).f0 by omega)]; simp]
          simp only [Bool.false_and]
          exact Ev.now _
        · simp only [if_neg h3]
          rw [show spanAt l i = true by unfold spanAt; rw [decide_eq_true (show (rd_T84 l (i : Int)).f0 < (rd_T84 l (i : Int)).f1 by omega), decide_eq_true (show (rd_T84 l ((i - 1 : Nat) : Int)).f1 < (rd_T84 l (i : Int)).f0 by omega)]; simp, Bool.true_and]
          exact hn
theorem impl_spans (l : List S84) : Ev (fun k => impl_SpansOk.f k l) (spansB l) := by
  unfold impl_SpansOk.f spansB
  by_cases h : l.length ≤ 8
  · simp only [if_neg (show ¬ (l.length : Int) > 8 by omega), decide_eq_true h, Bool.true_and]
    exact impl_spans_loop l (by omega) l.length 0 (by omega)
  · simp only [if_pos (show (l.length : Int) > 8 by omega), decide_eq_false h, Bool.false_and]
    exact Ev.now _
def dotsTo (l : List S84) : Nat → Int
  | 0 => 0
  | i + 1 => wrap64 (dotsTo l i + wrap64 ((rd_T84 l (i : Int)).f1 - (rd_T84 l (i : Int)).f0))
def dotsOf (l : List S84) : Int := if spansB l = true then dotsTo l l.length else 0
theorem impl_dots_loop (l : List S84) (hl : l.length ≤ 1048576) : ∀ (d i : Nat), i + d = l.length →
    Ev (fun k => impl_SpanDots.l0 k (dotsTo l i) l (l.length : Int) (i : Int)) (dotsTo l l.length) := by
  intro d
  induction d with
  | zero =>
    intro i hi
    refine Ev.step (fun k => impl_SpanDots.l0.eq_2 _ _ _ _ k) ?_
    simp only [if_neg (show ¬ (i : Int) < (l.length : Int) by omega)]
    rw [show i = l.length by omega]
    exact Ev.now _
  | succ d ih =>
    intro i hi
    refine Ev.step (fun k => impl_SpanDots.l0.eq_2 _ _ _ _ k) ?_
    simp only [if_pos (show (i : Int) < (l.length : Int) by omega), if_pos (show (0 : Int) ≤ (i : Int) by omega)]
    rw [wrap_succ i (by omega)]
    exact ih (i + 1) (by omega)
theorem impl_dots (l : List S84) : Ev (fun k => impl_SpanDots.f k l) (dotsOf l) := by
  unfold impl_SpanDots.f dotsOf
  refine Ev.bind (impl_spans l) ?_
  cases h : spansB l
  · simp only [Bool.false_eq_true, if_false]
    exact Ev.now _
  · simp only [if_true]
    have h8 : l.length ≤ 8 := by
      unfold spansB at h
      rw [Bool.and_eq_true] at h
      exact of_decide_eq_true h.1
    exact impl_dots_loop l (by omega) l.length 0 (by omega)
theorem wrap_take (s a b : Int) : wrap64 (wrap64 (s + a) - b) = wrap64 (s + wrap64 (a - b)) := by
  unfold wrap64
  omega
theorem spec_dots_loop (l : List S84) (hl : l.length ≤ 1048576) (h : spansB l = true) : ∀ (d i : Nat), i + d = l.length →
    Ev (fun k => spec_SpanDots.l0 k l (dotsTo l i) (i : Int)) (dotsTo l l.length) := by
  intro d
  induction d with
  | zero =>
    intro i hi
    refine Ev.step (fun k => spec_SpanDots.l0.eq_2 _ _ _ k) ?_
    simp only [if_neg (show ¬ (i : Int) < (l.length : Int) by omega)]
    rw [show i = l.length by omega]
    exact Ev.now _
  | succ d ih =>
    intro i hi
    refine Ev.step (fun k => spec_SpanDots.l0.eq_2 _ _ _ k) ?_
    simp only [if_pos (show (i : Int) < (l.length : Int) by omega)]
    refine Ev.bind (spec_spans l hl) ?_
    simp only [h, if_true, if_pos (show (0 : Int) ≤ (i : Int) by omega)]
    rw [wrap_succ i (by omega), wrap_take]
    exact ih (i + 1) (by omega)
theorem spec_dots (l : List S84) (hl : l.length ≤ 1048576) : Ev (fun k => spec_SpanDots.f k l) (dotsOf l) := by
  unfold spec_SpanDots.f dotsOf
  cases h : spansB l
  · simp only [Bool.false_eq_true, if_false]
    refine Ev.step (fun k => spec_SpanDots.l0.eq_2 _ _ _ k) ?_
    by_cases h0 : (0 : Int) < (l.length : Int)
    · simp only [if_pos h0]
      refine Ev.bind (spec_spans l hl) ?_
      simp only [h, Bool.false_eq_true, if_false]
      exact Ev.now _
    · simp only [if_neg h0]
      exact Ev.now _
  · simp only [if_true]
    exact spec_dots_loop l hl h l.length 0 (by omega)
theorem FnExactSpanDots (l : List S99) (hl : l.length ≤ 9223372036854775807) (_ : ∀ x ∈ l, (Lit.int .i64 x.f0).wf = true ∧ (Lit.int .i64 x.f1).wf = true) : ∃ k, laws_FnExactSpanDots.f k l = some true := by
  refine Ev.rounds ?_
  simp only [laws_FnExactSpanDots.f, szSpans l hl, Option.bind_some]
  by_cases h : (1048576 : Int) - l.length < 0
  · simp only [if_pos h, if_pos (show (-1 : Int) < 0 by omega)]
    exact Ev.now _
  · simp only [if_neg h]
    refine Ev.bind (toSpans l (by omega)) ?_
    refine Ev.bind (spec_dots _ (by simp; omega)) ?_
    refine Ev.bind (toSpans l (by omega)) ?_
    refine Ev.bind (impl_dots _) ?_
    simp only [if_true]
    refine Ev.bind (toSpans l (by omega)) ?_
    refine Ev.bind (eqSpans _ (by simp; omega)) ?_
    simp only [if_true]
    exact Ev.now _

end Go.Proofs.Ytmgjdmmggdmheaa.Pure

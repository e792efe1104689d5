/- The program's MeetSpans returns what the reference's returns, for all arguments. This is its pure statement, over numbers and lists, as printed from the program; the row is built on it.
   Conditions: none. -/
import Derived.Test.YtgpiboajpolmoaaPFnExactMeetSpansx4
namespace Go.Proofs.Ytgpiboajpolmoaa.Pure
set_option linter.unusedSimpArgs false
set_option linter.unusedVariables false
open Go.RowKit Go.Proofs.Ytgpiboajpolmoaa.PFnExactMeetSpans Go.Proofs.YtgpiboajpolmoaaW.PrintWords Go.Proofs.YtgpiboajpolmoaaW.PrintLast

theorem wrap_id {x : Int} (h0 : -9223372036854775808 ≤ x) (h1 : x ≤ 9223372036854775807) : wrap64 x = x := by
  unfold wrap64
  omega
theorem wrap_succ (i : Nat) (h : i < 4611686018427387904) : wrap64 ((i : Int) + 1) = ((i + 1 : Nat) : Int) := by
  rw [wrap_id (by omega) (by omega)]
  omega
theorem rd_lt (l : List Int) (i : Nat) (h : i < l.length) : rd l (i : Int) = l[i] := by
  unfold rd
  rw [Int.toNat_natCast, List.getD_eq_getElem?_getD, List.getElem?_eq_getElem h]
  rfl
theorem set_take {α : Type} (l x : List α) (i : Nat) (hi : i < l.length) (hx : x.length = l.length) (h : x.take i = l.take i) :
    (x.set i l[i]).take (i + 1) = l.take (i + 1) := by
  rw [List.take_succ_eq_append_getElem (by simp; omega), List.take_succ_eq_append_getElem hi, List.getElem_set_self, List.take_set_of_le (Nat.le_refl i), h]
def allFrom (p : Nat → Bool) (n i : Nat) : Bool := (List.range' i (n - i)).all p
theorem all_end (p : Nat → Bool) (n : Nat) : allFrom p n n = true := by simp [allFrom]
theorem all_step (p : Nat → Bool) (n i : Nat) (h : i < n) : allFrom p n i = (p i && allFrom p n (i + 1)) := by
  unfold allFrom
  rw [show n - i = (n - (i + 1)) + 1 by omega, List.range'_succ, List.all_cons]
theorem all_iff (p : Nat → Bool) (n i : Nat) : allFrom p n i = true ↔ ∀ j, i ≤ j → j < n → p j = true := by
  unfold allFrom
  rw [List.all_eq_true]
  constructor
  · intro h j h1 h2
    exact h j (List.mem_range'_1.2 ⟨h1, by omega⟩)
  · intro h j hj
    have := List.mem_range'_1.1 hj
    exact h j this.1 (by omega)
def cvSpan (x : S101) : S93 := ⟨x.f0, x.f1⟩
theorem rdlSpan_lt (l : List S101) (i : Nat) (h : i < l.length) : rd_T101 l (i : Int) = l[i] := by
  unfold rd_T101
  rw [Int.toNat_natCast, List.getD_eq_getElem?_getD, List.getElem?_eq_getElem h]
  rfl
theorem rdiSpan_lt (l : List S93) (i : Nat) (h : i < l.length) : rd_T93 l (i : Int) = l[i] := by
  unfold rd_T93
  rw [Int.toNat_natCast, List.getD_eq_getElem?_getD, List.getElem?_eq_getElem h]
  rfl
theorem toSpan_loop (l : List S101) (hl : l.length ≤ 1048576) : ∀ (d i : Nat) (x : List S93), i + d = l.length → x.length = l.length → x.take i = (l.map cvSpan).take i →
    Ev (fun k => laws_toSpanS.l0 k l x (i : Int)) (l.map cvSpan) := by
  intro d
  induction d with
  | zero =>
    intro i x hi hx ht
    refine Ev.step (fun k => laws_toSpanS.l0.eq_2 _ _ _ k) ?_
    simp only [if_neg (show ¬ (i : Int) < (l.length : Int) by omega)]
    rw [List.take_of_length_le (by omega), List.take_of_length_le (by simp; omega)] at ht
    subst ht
    exact Ev.now _
  | succ d ih =>
    intro i x hi hx ht
    refine Ev.step (fun k => laws_toSpanS.l0.eq_2 _ _ _ k) ?_
    simp only [if_pos (show (i : Int) < (l.length : Int) by omega), if_pos (show (0 : Int) ≤ (i : Int) by omega), if_pos (show (i : Int) < (x.length : Int) by omega), laws_toSpan.f, Option.bind_some]
    rw [wrap_succ i (by omega), rdlSpan_lt l i (by omega), Int.toNat_natCast]
    refine ih (i + 1) _ (by omega) (by simp; omega) ?_
    have := set_take (l.map cvSpan) x i (by simp; omega) (by simp; omega) ht
    rw [List.getElem_map] at this
    exact this
theorem toSpans (l : List S101) (hl : l.length ≤ 1048576) : Ev (fun k => laws_toSpanS.f k l) (l.map cvSpan) := by
  unfold laws_toSpanS.f
  simp only [if_pos (show (0 : Int) ≤ (l.length : Int) by omega), Int.toNat_natCast, if_pos (show l.length ≤ 17592186044416 by omega)]
  exact toSpan_loop l hl l.length 0 _ (by omega) (by simp) (by simp)
theorem eqSpan_loop (l : List S93) (hl : l.length ≤ 1048577) : ∀ (d i : Nat), i + d = l.length →
    Ev (fun k => laws_eqSpanS.l0 k l l (i : Int)) true := by
  intro d
  induction d with
  | zero =>
    intro i hi
    refine Ev.step (fun k => laws_eqSpanS.l0.eq_2 _ _ _ k) ?_
    simp only [if_neg (show ¬ (i : Int) < (l.length : Int) by omega)]
    exact Ev.now _
  | succ d ih =>
    intro i hi
    refine Ev.step (fun k => laws_eqSpanS.l0.eq_2 _ _ _ k) ?_
    simp only [if_pos (show (i : Int) < (l.length : Int) by omega), if_pos (show (0 : Int) ≤ (i : Int) by omega), laws_eqSpan.f, if_true, Option.bind_some]
    rw [wrap_succ i (by omega)]
    exact ih (i + 1) (by omega)
theorem eqSpans (l : List S93) (hl : l.length ≤ 1048577) : Ev (fun k => laws_eqSpanS.f k l l) true := by
  unfold laws_eqSpanS.f
  simp only [if_true]
  exact eqSpan_loop l hl l.length 0 (by omega)
theorem szSpans (l : List S101) (hl : l.length ≤ 9223372036854775807) : laws_szSpanS.f l 1048576 = (some (if (1048576 : Int) - (l.length : Int) < 0 then (-1 : Int) else (1048576 : Int) - (l.length : Int)) : Option Int) := by
  unfold laws_szSpanS.f
  rw [wrap_id (by omega) (by omega)]
  split <;> rfl
def markLSpan (n : Nat) : List S93 := (List.range n).map fun j : Nat => ⟨1 + 2 * (j : Int), 1 + 2 * (j : Int) + 1⟩
theorem markSpan_loop (n : Nat) (hn : n ≤ 1048576) : ∀ (d i : Nat) (x : List S93), i + d = n → x.length = n → x.take i = (markLSpan n).take i →
    Ev (fun k => laws_markSpanS.l0 k x (1 + 2 * (i : Int)) (i : Int)) (1 + 2 * (n : Int), markLSpan n) := by
  intro d
  induction d with
  | zero =>
    intro i x hi hx ht
    refine Ev.step (fun k => laws_markSpanS.l0.eq_2 _ _ _ k) ?_
    simp only [if_neg (show ¬ (i : Int) < (x.length : Int) by omega)]
    have hl : (markLSpan n).length = n := by simp [markLSpan]
    rw [List.take_of_length_le (by omega), List.take_of_length_le (l := markLSpan n) (by omega)] at ht
    subst ht
    rw [show i = n by omega]
    exact Ev.now _
  | succ d ih =>
    intro i x hi hx ht
    refine Ev.step (fun k => laws_markSpanS.l0.eq_2 _ _ _ k) ?_
    simp only [if_pos (show (i : Int) < (x.length : Int) by omega), if_pos (show (0 : Int) ≤ (i : Int) by omega), Option.bind_some, Int.toNat_natCast]
    rw [rdiSpan_lt (x.set i ⟨1 + 2 * (i : Int), (rd_T93 x (i : Int)).f1⟩) i (by simp; omega), List.getElem_set_self, List.set_set, wrap_succ i (by omega), wrap_id (x := 1 + 2 * (i : Int) + 1) (by omega) (by omega), wrap_id (x := 1 + 2 * (i : Int) + 1 + 1) (by omega) (by omega)]
    have h := ih (i + 1) (x.set i ⟨1 + 2 * (i : Int), 1 + 2 * (i : Int) + 1⟩) (by omega) (by simp; omega) (by
      have h2 := set_take (markLSpan n) x i (by simp [markLSpan]; omega) (by simp [markLSpan]; omega) ht
      have h3 : (markLSpan n)[i]'(by simp [markLSpan]; omega) = ⟨1 + 2 * (i : Int), 1 + 2 * (i : Int) + 1⟩ := by simp [markLSpan]
      rw [h3] at h2
      exact h2)
    rw [show (1 : Int) + 2 * (i : Int) + 1 + 1 = 1 + 2 * ((i + 1 : Nat) : Int) by omega]
    exact h
theorem markSpans (l : List S93) (hl : l.length ≤ 1048576) : Ev (fun k => laws_markSpanS.f k l 1) (1 + 2 * (l.length : Int), markLSpan l.length) := by
  unfold laws_markSpanS.f
  exact markSpan_loop l.length hl l.length 0 l (by omega) rfl (by simp)
theorem heldSpan_loop (n : Nat) (hn : n ≤ 1048576) : ∀ (d i : Nat), i + d = n →
    Ev (fun k => laws_heldSpanS.l0 k (markLSpan n) (1 + 2 * (i : Int)) (i : Int)) (1 + 2 * (n : Int)) := by
  intro d
  induction d with
  | zero =>
    intro i hi
    refine Ev.step (fun k => laws_heldSpanS.l0.eq_2 _ _ _ k) ?_
    simp only [if_neg (show ¬ (i : Int) < ((markLSpan n).length : Int) by simp [markLSpan]; omega)]
    rw [show i = n by omega]
    exact Ev.now _
  | succ d ih =>
    intro i hi
    refine Ev.step (fun k => laws_heldSpanS.l0.eq_2 _ _ _ k) ?_
    have h3 : rd_T93 (markLSpan n) (i : Int) = ⟨1 + 2 * (i : Int), 1 + 2 * (i : Int) + 1⟩ := by
      rw [rdiSpan_lt _ i (by simp [markLSpan]; omega)]
      simp [markLSpan]
    rw [h3, wrap_succ i (by omega), wrap_id (x := 1 + 2 * (i : Int) + 1) (by omega) (by omega), wrap_id (x := 1 + 2 * (i : Int) + 1 + 1) (by omega) (by omega)]
    simp only [if_pos (show (i : Int) < ((markLSpan n).length : Int) by simp [markLSpan]; omega), if_pos (show (0 : Int) ≤ (i : Int) by omega), if_true]
    rw [show (1 : Int) + 2 * (i : Int) + 1 + 1 = 1 + 2 * ((i + 1 : Nat) : Int) by omega]
    exact ih (i + 1) (by omega)
theorem heldSpans (n : Nat) (hn : n ≤ 1048576) : Ev (fun k => laws_heldSpanS.f k (markLSpan n) 1) (1 + 2 * (n : Int)) := by
  unfold laws_heldSpanS.f
  exact heldSpan_loop n hn n 0 (by omega)
def spanAt (l : List S93) (i : Nat) : Bool :=
  decide ((rd_T93 l (i : Int)).f0 < (rd_T93 l (i : Int)).f1) && (decide (i = 0) || decide ((rd_T93 l ((i - 1 : Nat) : Int)).f1 < (rd_T93 l (i : Int)).f0))
def spansB (l : List S93) : Bool := decide (l.length ≤ 8) && allFrom (spanAt l) l.length 0
theorem wrap_pred (i : Nat) (h0 : 0 < i) (h : i < 4611686018427387904) : wrap64 ((i : Int) - 1) = ((i - 1 : Nat) : Int) := by
  rw [wrap_id (by omega) (by omega)]
  omega
theorem spec_spans_loop (l : List S93) (hl : l.length ≤ 1048576) : ∀ (d i : Nat), i + d = l.length →
    Ev (fun k => spec_SpansOk.l0 k l (i : Int)) (decide (l.length ≤ 8) && allFrom (spanAt l) l.length i) := by
  intro d
  induction d with
  | zero =>
    intro i hi
    refine Ev.step (fun k => spec_SpansOk.l0.eq_2 _ _ k) ?_
    simp only [if_neg (show ¬ (i : Int) < (l.length : Int) by omega)]
    rw [show i = l.length by omega, all_end, Bool.and_true]
    have e : decide ((l.length : Int) ≤ 8) = decide (l.length ≤ 8) := decide_eq_decide.2 (by omega)
    rw [e]
    exact Ev.now _
  | succ d ih =>
    intro i hi
    have hn := ih (i + 1) (by omega)
    refine Ev.step (fun k => spec_SpansOk.l0.eq_2 _ _ k) ?_
    simp only [if_pos (show (i : Int) < (l.length : Int) by omega), if_pos (show (0 : Int) ≤ (i : Int) by omega)]
    rw [wrap_succ i (by omega), all_step _ _ _ (show i < l.length by omega)]
    by_cases h1 : (rd_T93 l (i : Int)).f0 ≥ (rd_T93 l (i : Int)).f1
    · simp only [if_pos h1]
      rw [show spanAt l i = false by unfold spanAt; rw [decide_eq_false (by omega)]; rfl]
      simp only [Bool.false_and, Bool.and_false]
      exact Ev.now _
    · simp only [if_neg h1]
      by_cases h2 : i = 0
      · subst h2
        simp only [if_neg (show ¬ ((0 : Nat) : Int) > 0 by omega)]
        rw [show spanAt l 0 = true by unfold spanAt; rw [decide_eq_true (by omega)]; rfl, Bool.true_and]
        exact hn
      · rw [wrap_pred i (by omega) (by omega)]
        simp only [if_pos (show (i : Int) > 0 by omega), if_pos (show (0 : Int) ≤ ((i - 1 : Nat) : Int) by omega), if_pos (show ((i - 1 : Nat) : Int) < (l.length : Int) by omega)]
        by_cases h3 : (rd_T93 l ((i - 1 : Nat) : Int)).f1 ≥ (rd_T93 l (i : Int)).f0
        · simp only [if_pos h3]
          rw [show spanAt l i = false by unfold spanAt; rw [decide_eq_false h2, decide_eq_false (show ¬ (rd_T93 l ((i - 1 : Nat) : Int)).f1 < (rd_T93 l (i : Int)).f0 by omega)]; simp]
          simp only [Bool.false_and, Bool.and_false]
          exact Ev.now _
        · simp only [if_neg h3]
          rw [show spanAt l i = true by unfold spanAt; rw [decide_eq_true (show (rd_T93 l (i : Int)).f0 < (rd_T93 l (i : Int)).f1 by omega), decide_eq_true (show (rd_T93 l ((i - 1 : Nat) : Int)).f1 < (rd_T93 l (i : Int)).f0 by omega)]; simp, Bool.true_and]
          exact hn
theorem spec_spans (l : List S93) (hl : l.length ≤ 1048576) : Ev (fun k => spec_SpansOk.f k l) (spansB l) := by
  unfold spec_SpansOk.f spansB
  exact spec_spans_loop l hl l.length 0 (by omega)
theorem impl_spans_loop (l : List S93) (hl : l.length ≤ 1048576) : ∀ (d i : Nat), i + d = l.length →
    Ev (fun k => impl_SpansOk.l0 k l l (l.length : Int) (i : Int)) (allFrom (spanAt l) l.length i) := by
  intro d
  induction d with
  | zero =>
    intro i hi
    refine Ev.step (fun k => impl_SpansOk.l0.eq_2 _ _ _ _ k) ?_
    simp only [if_neg (show ¬ (i : Int) < (l.length : Int) by omega)]
    rw [show i = l.length by omega, all_end]
    exact Ev.now _
  | succ d ih =>
    intro i hi
    have hn := ih (i + 1) (by omega)
    refine Ev.step (fun k => impl_SpansOk.l0.eq_2 _ _ _ _ k) ?_
    simp only [if_pos (show (i : Int) < (l.length : Int) by omega), if_pos (show (0 : Int) ≤ (i : Int) by omega)]
    rw [wrap_succ i (by omega), all_step _ _ _ (show i < l.length by omega)]
    by_cases h1 : (rd_T93 l (i : Int)).f0 ≥ (rd_T93 l (i : Int)).f1
    · simp only [if_pos h1]
      rw [show spanAt l i = false by unfold spanAt; rw [decide_eq_false (by omega)]; rfl]
      simp only [Bool.false_and]
      exact Ev.now _
    · simp only [if_neg h1]
      by_cases h2 : i = 0
      · subst h2
        simp only [if_neg (show ¬ ((0 : Nat) : Int) > 0 by omega)]
        rw [show spanAt l 0 = true by unfold spanAt; rw [decide_eq_true (by omega)]; rfl, Bool.true_and]
        exact hn
      · rw [wrap_pred i (by omega) (by omega)]
        simp only [if_pos (show (i : Int) > 0 by omega), if_pos (show (0 : Int) ≤ ((i - 1 : Nat) : Int) by omega), if_pos (show ((i - 1 : Nat) : Int) < (l.length : Int) by omega)]
        by_cases h3 : (rd_T93 l ((i - 1 : Nat) : Int)).f1 ≥ (rd_T93 l (i : Int)).f0
        · simp only [if_pos h3]
          rw [show spanAt l i = false by unfold spanAt; rw [decide_eq_false h2, decide_eq_false (show ¬ (rd_T93 l ((i - 1 : Nat) : Int)).f1 < (rd_T93 l (i : Int)).f0 by omega)]; simp]
          simp only [Bool.false_and]
          exact Ev.now _
        · simp only [if_neg h3]
          rw [show spanAt l i = true by unfold spanAt; rw [decide_eq_true (show (rd_T93 l (i : Int)).f0 < (rd_T93 l (i : Int)).f1 by omega), decide_eq_true (show (rd_T93 l ((i - 1 : Nat) : Int)).f1 < (rd_T93 l (i : Int)).f0 by omega)]; simp, Bool.true_and]
          exact hn
theorem impl_spans (l : List S93) : Ev (fun k => impl_SpansOk.f k l) (spansB l) := by
  unfold impl_SpansOk.f spansB
  by_cases h : l.length ≤ 8
  · simp only [if_neg (show ¬ (l.length : Int) > 8 by omega), decide_eq_true h, Bool.true_and]
    exact impl_spans_loop l (by omega) l.length 0 (by omega)
  · simp only [if_pos (show (l.length : Int) > 8 by omega), decide_eq_false h, Bool.false_and]
    exact Ev.now _
def cutS (a b : Int) (s : S93) : S93 := ⟨mx s.f0 a, mn s.f1 b⟩
def goodS (s : S93) : Bool := decide (s.f0 < s.f1)
def meetM (l : List S93) (a b : Int) : List S93 := (l.map (cutS a b)).filter goodS
def meetSM (l : List S93) (a b : Int) : List S93 := if spansB l = true then meetM l a b else []
theorem meet_next (l : List S93) (a b : Int) (i : Nat) (h : i < l.length) : meetM (l.take (i + 1)) a b = if goodS (cutS a b l[i]) = true then meetM (l.take i) a b ++ [cutS a b l[i]] else meetM (l.take i) a b := by
  unfold meetM
  rw [List.take_succ_eq_append_getElem h, List.map_append, List.filter_append]
  simp only [List.map_cons, List.map_nil, List.filter_cons, List.filter_nil]
  split
  · rfl
  · simp
theorem meet_len (l : List S93) (a b : Int) : (meetM l a b).length ≤ l.length := by
  unfold meetM
  exact Nat.le_trans (List.length_filter_le _ _) (by simp)
theorem impl_meet_loop (l : List S93) (a b : Int) (hl : l.length ≤ 1048576) : ∀ (d i : Nat), i + d = l.length →
    Ev (fun k => impl_MeetSpans.l0 k a b (meetM (l.take i) a b) l (l.length : Int) (i : Int)) (meetM l a b) := by
  intro d
  induction d with
  | zero =>
    intro i hi
    refine Ev.step (fun k => impl_MeetSpans.l0.eq_2 _ _ _ _ _ _ k) ?_
    simp only [if_neg (show ¬ (i : Int) < (l.length : Int) by omega)]
    rw [List.take_of_length_le (by omega)]
    exact Ev.now _
  | succ d ih =>
    intro i hi
    have hn := ih (i + 1) (by omega)
    rw [meet_next l a b i (by omega)] at hn
    refine Ev.step (fun k => impl_MeetSpans.l0.eq_2 _ _ _ _ _ _ k) ?_
    have hlen : (meetM (l.take i) a b).length < 8796093022208 := by
      have := meet_len (l.take i) a b
      rw [List.length_take] at this
      omega
    simp only [if_pos (show (i : Int) < (l.length : Int) by omega), if_pos (show (0 : Int) ≤ (i : Int) by omega), if_pos hlen]
    rw [wrap_succ i (by omega), rdiSpan_lt l i (by omega)]
    by_cases hc : mx l[i].f0 a < mn l[i].f1 b
    · simp only [if_pos hc]
      rw [if_pos (show goodS (cutS a b l[i]) = true from decide_eq_true hc)] at hn
      exact hn
    · simp only [if_neg hc]
      rw [if_neg (show ¬ goodS (cutS a b l[i]) = true by unfold goodS; rw [decide_eq_true_eq]; exact hc)] at hn
      exact hn
theorem impl_meetspans (l : List S93) (a b : Int) : Ev (fun k => impl_MeetSpans.f k l a b) (meetSM l a b) := by
  unfold impl_MeetSpans.f meetSM
  refine Ev.bind (impl_spans l) ?_
  cases h : spansB l
  · simp only [Bool.false_eq_true, if_false]
    exact Ev.now _
  · simp only [if_true]
    have h8 : l.length ≤ 8 := by
      unfold spansB at h
      rw [Bool.and_eq_true] at h
      exact of_decide_eq_true h.1
    exact impl_meet_loop l a b (by omega) l.length 0 (by omega)
theorem spec_meet_loop (l : List S93) (a b : Int) (hl : l.length ≤ 1048576) : ∀ (d i : Nat), i + d = l.length →
    Ev (fun k => spec_MeetSpans.l0 k l a b (meetM (l.take i) a b) (i : Int)) (meetM l a b) := by
  intro d
  induction d with
  | zero =>
    intro i hi
    refine Ev.step (fun k => spec_MeetSpans.l0.eq_2 _ _ _ _ _ k) ?_
    simp only [if_neg (show ¬ (i : Int) < (l.length : Int) by omega)]
    rw [List.take_of_length_le (by omega)]
    exact Ev.now _
  | succ d ih =>
    intro i hi
    have hn := ih (i + 1) (by omega)
    rw [meet_next l a b i (by omega)] at hn
    refine Ev.step (fun k => spec_MeetSpans.l0.eq_2 _ _ _ _ _ k) ?_
    have hlen : (meetM (l.take i) a b).length < 8796093022208 := by
      have := meet_len (l.take i) a b
      rw [List.length_take] at this
      omega
    simp only [if_pos (show (i : Int) < (l.length : Int) by omega), if_pos (show (0 : Int) ≤ (i : Int) by omega), if_pos hlen]
    rw [wrap_succ i (by omega), rdiSpan_lt l i (by omega)]
    by_cases hc : mx l[i].f0 a < mn l[i].f1 b
    · simp only [if_pos hc]
      rw [if_pos (show goodS (cutS a b l[i]) = true from decide_eq_true hc)] at hn
      exact hn
    · simp only [if_neg hc]
      rw [if_neg (show ¬ goodS (cutS a b l[i]) = true by unfold goodS; rw [decide_eq_true_eq]; exact hc)] at hn
      exact hn
theorem spec_meetspans (l : List S93) (a b : Int) (hl : l.length ≤ 1048576) : Ev (fun k => spec_MeetSpans.f k l a b) (meetSM l a b) := by
  unfold spec_MeetSpans.f meetSM
  simp only [Option.bind_some]
  refine Ev.bind (spec_spans l hl) ?_
  cases h : spansB l
  · simp only [Bool.false_eq_true, if_false]
    exact Ev.now _
  · simp only [if_true]
    exact spec_meet_loop l a b hl l.length 0 (by omega)
theorem meets_len (l : List S93) (a b : Int) : (meetSM l a b).length ≤ l.length := by
  unfold meetSM
  split
  · exact meet_len l a b
  · simp
theorem FnExactMeetSpans (l : List S101) (a b : Int) (hl : l.length ≤ 9223372036854775807) (_ : ∀ x ∈ l, (Lit.int .i64 x.f0).wf = true ∧ (Lit.int .i64 x.f1).wf = true)
    (_ : (Lit.int .i64 a).wf = true) (_ : (Lit.int .i64 b).wf = true) : ∃ k, laws_FnExactMeetSpans.f k l a b = some true := by
  refine Ev.rounds ?_
  simp only [laws_FnExactMeetSpans.f, szSpans l hl, Option.bind_some]
  by_cases h : (1048576 : Int) - l.length < 0
  · simp only [if_pos h, if_pos (show (-1 : Int) < 0 by omega)]
    exact Ev.now _
  · simp only [if_neg h]
    have hm : (l.map cvSpan).length ≤ 1048576 := by
      simp
      omega
    have hs := meets_len (l.map cvSpan) a b
    refine Ev.bind (toSpans l (by omega)) ?_
    refine Ev.bind (spec_meetspans _ a b hm) ?_
    refine Ev.bind (toSpans l (by omega)) ?_
    refine Ev.bind (impl_meetspans _ a b) ?_
    refine Ev.bind (eqSpans _ (by omega)) ?_
    simp only [if_true]
    refine Ev.bind (toSpans l (by omega)) ?_
    refine Ev.bind (eqSpans _ (by omega)) ?_
    simp only [if_true]
    refine Ev.bind (markSpans _ hm) ?_
    simp only [if_neg (show ¬ (1 : Int) + 2 * ((l.map cvSpan).length : Int) < 0 by omega)]
    refine Ev.bind (eqSpans _ (by omega)) ?_
    simp only [Bool.not_true]
    refine Ev.step (fun k => laws_FnExactMeetSpans.j0.eq_2 _ _ _ _ _ _ k) ?_
    simp only [Bool.false_eq_true, if_false]
    refine Ev.bind (markSpans _ (by omega)) ?_
    refine Ev.bind (heldSpans _ (by omega)) ?_
    simp only [if_neg (show ¬ (1 : Int) + 2 * ((meetSM (l.map cvSpan) a b).length : Int) < 0 by omega), if_true]
    refine Ev.bind (toSpans l (by omega)) ?_
    refine Ev.bind (impl_meetspans _ a b) ?_
    refine Ev.bind (eqSpans _ (by omega)) ?_
    simp only [if_true]
    refine Ev.bind (heldSpans _ (by omega)) ?_
    simp only [if_neg (show ¬ (1 : Int) + 2 * ((meetSM (l.map cvSpan) a b).length : Int) < 0 by omega), if_true]
    exact Ev.now _

end Go.Proofs.Ytgpiboajpolmoaa.Pure

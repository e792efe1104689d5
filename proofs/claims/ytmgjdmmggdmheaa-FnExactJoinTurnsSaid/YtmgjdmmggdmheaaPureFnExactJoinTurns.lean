/- The program's JoinTurns returns what the reference's returns, for all arguments. This is its pure statement, over numbers and lists, as printed from the program; the row is built on it.
   Conditions: none. -/
import Derived.Test.YtmgjdmmggdmheaaGFnExactJoinTurnsx3
namespace Go.Proofs.Ytmgjdmmggdmheaa.Pure
set_option linter.unusedSimpArgs false
set_option linter.unusedVariables false
open Go.RowKit Go.Proofs.Ytmgjdmmggdmheaa.GFnExactJoinTurns Go.Proofs.YtmgjdmmggdmheaaW.PrintWords Go.Proofs.YtmgjdmmggdmheaaW.PrintLast

theorem wrap_id {x : Int} (h0 : -9223372036854775808 ≤ x) (h1 : x ≤ 9223372036854775807) : wrap64 x = x := by
  unfold wrap64
  omega
theorem wrap_succ (i : Nat) (h : i < 4611686018427387904) : wrap64 ((i : Int) + 1) = ((i + 1 : Nat) : Int) := by
  rw [wrap_id (by omega) (by omega)]
  omega
theorem rd_lt (l : List Int) (i : Nat) (h : i < l.length) : rd l (i : Int) = l[i] := by
  unfold rd
  rw [Int.toNat_natCast, List.getD_eq_getElem?_getD, List.getElem?_eq_getElem h]
  rfl
theorem set_take {α : Type} (l x : List α) (i : Nat) (hi : i < l.length) (hx : x.length = l.length) (h : x.take i = l.take i) :
    (x.set i l[i]).take (i + 1) = l.take (i + 1) := by
  rw [List.take_succ_eq_append_getElem (by simp; omega), List.take_succ_eq_append_getElem hi, List.getElem_set_self, List.take_set_of_le (Nat.le_refl i), h]
def allFrom (p : Nat → Bool) (n i : Nat) : Bool := (List.range' i (n - i)).all p
theorem all_end (p : Nat → Bool) (n : Nat) : allFrom p n n = true := by simp [allFrom]
theorem all_step (p : Nat → Bool) (n i : Nat) (h : i < n) : allFrom p n i = (p i && allFrom p n (i + 1)) := by
  unfold allFrom
  rw [show n - i = (n - (i + 1)) + 1 by omega, List.range'_succ, List.all_cons]
theorem all_iff (p : Nat → Bool) (n i : Nat) : allFrom p n i = true ↔ ∀ j, i ≤ j → j < n → p j = true := by
  unfold allFrom
  rw [List.all_eq_true]
  constructor
  · intro h j h1 h2
    exact h j (List.mem_range'_1.2 ⟨h1, by omega⟩)
  · intro h j hj
    have := List.mem_range'_1.1 hj
    exact h j this.1 (by omega)
theorem spec_in (a b c : Int) : spec_l01In.f a b c = some (decide (b ≤ a ∧ a ≤ c)) := by
  unfold spec_l01In.f
  by_cases h : b ≤ a <;> simp [h]
theorem impl_in (a b c : Int) : impl_within.f a b c = some (decide (b ≤ a ∧ a ≤ c)) := by
  unfold impl_within.f
  by_cases h : b ≤ a <;> simp [h]
def inB (a b c : Int) : Bool := decide (b ≤ a ∧ a ≤ c)
theorem spec_coord (a : Int) : spec_l02In.f a = some (decide (-200 ≤ a ∧ a ≤ 200)) := by
  simp only [spec_l02In.f, spec_in, Option.bind_some]
theorem impl_coord (a : Int) : impl_coordOk.f a = some (decide (-200 ≤ a ∧ a ≤ 200)) := by
  simp only [impl_coordOk.f, impl_in, Option.bind_some]
def turnB (q s dx dy : Int) : Bool := decide ((0 ≤ q ∧ q ≤ 3) ∧ (1 ≤ s ∧ s ≤ 4) ∧ (-200 ≤ dx ∧ dx ≤ 200) ∧ (-200 ≤ dy ∧ dy ≤ 200))
/-- So many quarters of a turn. -/
def turnN : Nat → Int → Int → Int × Int
  | 0, x, y => (x, y)
  | n + 1, x, y => turnN n (wrap64 (-y)) x
def rawM (q s dx dy px py : Int) : Int × Int :=
  (wrap64 ((turnN q.toNat (wrap64 (px * s)) (wrap64 (py * s))).1 + dx), wrap64 ((turnN q.toNat (wrap64 (px * s)) (wrap64 (py * s))).2 + dy))
theorem spec_turn (q s dx dy : Int) : spec_TurnOk.f q s dx dy = some (turnB q s dx dy) := by
  simp only [spec_TurnOk.f, spec_coord, spec_in, Option.bind_some, decide_eq_true_eq, turnB]
  repeat' split
  all_goals congr 1
  all_goals first | (symm; exact decide_eq_false (by omega)) | exact decide_eq_decide.2 (by omega)
theorem impl_turn (q s dx dy : Int) : impl_TurnOk.f q s dx dy = some (turnB q s dx dy) := by
  simp only [impl_TurnOk.f, impl_coord, impl_in, Option.bind_some, decide_eq_true_eq, turnB]
  repeat' split
  all_goals congr 1
  all_goals first | (symm; exact decide_eq_false (by omega)) | exact decide_eq_decide.2 (by omega)
theorem spec_raw_loop (q s dx dy : Int) (hq : q ≤ 3) : ∀ (d : Nat) (i x y : Int), 0 ≤ i → i ≤ 3 → d = (q - i).toNat →
    Ev (fun k => spec_l03Raw.l0 k x y i q s dx dy) (wrap64 ((turnN d x y).1 + dx), wrap64 ((turnN d x y).2 + dy)) := by
  intro d
  induction d with
  | zero =>
    intro i x y h0 h3 hd
    refine Ev.step (fun k => spec_l03Raw.l0.eq_2 _ _ _ _ _ _ _ k) ?_
    simp only [if_neg (show ¬ i < q by omega)]
    exact Ev.now _
  | succ d ih =>
    intro i x y h0 h3 hd
    refine Ev.step (fun k => spec_l03Raw.l0.eq_2 _ _ _ _ _ _ _ k) ?_
    simp only [if_pos (show i < q by omega)]
    rw [wrap_id (x := i + 1) (by omega) (by omega)]
    exact ih (i + 1) _ _ (by omega) (by omega) (by omega)
theorem spec_raw (q s dx dy px py : Int) (hq : q ≤ 3) : Ev (fun k => spec_l03Raw.f k q s dx dy px py) (rawM q s dx dy px py) := by
  unfold spec_l03Raw.f rawM
  exact spec_raw_loop q s dx dy hq q.toNat 0 _ _ (by omega) (by omega) (by omega)
theorem impl_quart_loop : ∀ (d : Nat) (n x y : Int), n ≤ 3 → d = n.toNat → Ev (fun k => impl_quarters.l0 k n x y) (turnN d x y) := by
  intro d
  induction d with
  | zero =>
    intro n x y h3 hd
    refine Ev.step (fun k => impl_quarters.l0.eq_2 _ _ _ k) ?_
    simp only [if_neg (show ¬ n > 0 by omega)]
    exact Ev.now _
  | succ d ih =>
    intro n x y h3 hd
    refine Ev.step (fun k => impl_quarters.l0.eq_2 _ _ _ k) ?_
    simp only [if_pos (show n > 0 by omega)]
    rw [wrap_id (x := n - 1) (by omega) (by omega)]
    exact ih (n - 1) _ _ (by omega) (by omega)
theorem impl_quart (n x y : Int) (h : n ≤ 3) : Ev (fun k => impl_quarters.f k x y n) (turnN n.toNat x y) := by
  unfold impl_quarters.f
  exact impl_quart_loop n.toNat n x y h rfl
theorem impl_moved (q s dx dy px py : Int) (hq : q ≤ 3) : Ev (fun k => impl_moved.f k q s dx dy px py) (rawM q s dx dy px py) := by
  unfold impl_moved.f rawM
  exact Ev.bind (impl_quart q _ _ hq) (Ev.now _)
def joinM (a b c d p q r s : Int) : Int × Int × Int × Int × Bool :=
  if (turnB a b c d && turnB p q r s) = true then
    if turnB (Int.tmod (wrap64 (a + p)) 4) (wrap64 (b * q)) (rawM p q r s c d).1 (rawM p q r s c d).2 = true then
      (Int.tmod (wrap64 (a + p)) 4, wrap64 (b * q), (rawM p q r s c d).1, (rawM p q r s c d).2, true)
    else (0, 0, 0, 0, false)
  else (0, 0, 0, 0, false)
theorem impl_join (a b c d p q r s : Int) : Ev (fun k => impl_JoinTurns.f k a b c d p q r s) (joinM a b c d p q r s) := by
  simp only [impl_JoinTurns.f, impl_turn, Option.bind_some, joinM]
  have j1 : Ev (fun k => impl_JoinTurns.j0 k true a b c d p q r s) (0, 0, 0, 0, false) := by
    refine Ev.step (fun k => impl_JoinTurns.j0.eq_2 _ _ _ _ _ _ _ _ _ k) ?_
    simp only [if_true]
    exact Ev.now _
  cases h1 : turnB a b c d with
  | false =>
    simp only [Bool.false_eq_true, if_false, Bool.false_and]
    exact j1
  | true =>
    simp only [if_true, Bool.true_and]
    cases h2 : turnB p q r s with
    | false =>
      simp only [Bool.not_false, Bool.false_eq_true, if_false]
      exact j1
    | true =>
      have hp : p ≤ 3 := by
        have := of_decide_eq_true h2
        omega
      simp only [Bool.not_true, if_true]
      refine Ev.step (fun k => impl_JoinTurns.j0.eq_2 _ _ _ _ _ _ _ _ _ k) ?_
      simp only [Bool.false_eq_true, if_false]
      refine Ev.bind (impl_moved p q r s c d hp) ?_
      simp only [impl_turn, Option.bind_some]
      cases turnB (Int.tmod (wrap64 (a + p)) 4) (wrap64 (b * q)) (rawM p q r s c d).1 (rawM p q r s c d).2 with
      | false =>
        simp only [Bool.false_eq_true, if_false]
        exact Ev.now _
      | true =>
        simp only [if_true]
        exact Ev.now _
theorem spec_join (a b c d p q r s : Int) : Ev (fun k => spec_JoinTurns.f k a b c d p q r s) (joinM a b c d p q r s) := by
  simp only [spec_JoinTurns.f, spec_turn, Option.bind_some, joinM]
  have j1 : Ev (fun k => spec_JoinTurns.j0 k true a b c d p q r s) (0, 0, 0, 0, false) := by
    refine Ev.step (fun k => spec_JoinTurns.j0.eq_2 _ _ _ _ _ _ _ _ _ k) ?_
    simp only [if_true]
    exact Ev.now _
  cases h1 : turnB a b c d with
  | false =>
    simp only [Bool.false_eq_true, if_false, Bool.false_and]
    exact j1
  | true =>
    simp only [if_true, Bool.true_and]
    cases h2 : turnB p q r s with
    | false =>
      simp only [Bool.not_false, Bool.false_eq_true, if_false]
      exact j1
    | true =>
      have hp : p ≤ 3 := by
        have := of_decide_eq_true h2
        omega
      simp only [Bool.not_true, if_true]
      refine Ev.step (fun k => spec_JoinTurns.j0.eq_2 _ _ _ _ _ _ _ _ _ k) ?_
      simp only [Bool.false_eq_true, if_false]
      refine Ev.bind (spec_raw p q r s c d hp) ?_
      simp only [spec_turn, Option.bind_some]
      cases turnB (Int.tmod (wrap64 (a + p)) 4) (wrap64 (b * q)) (rawM p q r s c d).1 (rawM p q r s c d).2 with
      | false =>
        simp only [Bool.false_eq_true, if_false]
        exact Ev.now _
      | true =>
        simp only [if_true]
        exact Ev.now _
theorem FnExactJoinTurns (a b c d p q r s : Int) (_ : (Lit.int .i64 a).wf = true) (_ : (Lit.int .i64 b).wf = true) (_ : (Lit.int .i64 c).wf = true) (_ : (Lit.int .i64 d).wf = true)
    (_ : (Lit.int .i64 p).wf = true) (_ : (Lit.int .i64 q).wf = true) (_ : (Lit.int .i64 r).wf = true) (_ : (Lit.int .i64 s).wf = true) : ∃ k, laws_FnExactJoinTurns.f k a b c d p q r s = some true := by
  refine Ev.rounds ?_
  simp only [laws_FnExactJoinTurns.f, laws_toTurn.f, Option.bind_some]
  refine Ev.bind (spec_join a b c d p q r s) ?_
  refine Ev.bind (impl_join a b c d p q r s) ?_
  simp only [laws_eqTurn.f, if_true, Option.bind_some, bne_self_eq_false, Bool.false_eq_true, if_false]
  exact Ev.now _

end Go.Proofs.Ytmgjdmmggdmheaa.Pure

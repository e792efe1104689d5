/- The program's BoxOf returns what the reference's returns, for all arguments. This is its pure statement, over numbers and lists, as printed from the program; the row is built on it.
   Conditions: none. -/
import Derived.Test.YtgpiboajpolmoaaGFnExactBoxOfx4
namespace Go.Proofs.Ytgpiboajpolmoaa.Pure
set_option linter.unusedSimpArgs false
set_option linter.unusedVariables false
open Go.RowKit Go.Proofs.Ytgpiboajpolmoaa.GFnExactBoxOf Go.Proofs.YtgpiboajpolmoaaW.PrintWords Go.Proofs.YtgpiboajpolmoaaW.PrintLast

theorem wrap_id {x : Int} (h0 : -9223372036854775808 ≤ x) (h1 : x ≤ 9223372036854775807) : wrap64 x = x := by
  unfold wrap64
  omega
theorem wrap_succ (i : Nat) (h : i < 4611686018427387904) : wrap64 ((i : Int) + 1) = ((i + 1 : Nat) : Int) := by
  rw [wrap_id (by omega) (by omega)]
  omega
theorem rd_lt (l : List Int) (i : Nat) (h : i < l.length) : rd l (i : Int) = l[i] := by
  unfold rd
  rw [Int.toNat_natCast, List.getD_eq_getElem?_getD, List.getElem?_eq_getElem h]
  rfl
theorem set_take {α : Type} (l x : List α) (i : Nat) (hi : i < l.length) (hx : x.length = l.length) (h : x.take i = l.take i) :
    (x.set i l[i]).take (i + 1) = l.take (i + 1) := by
  rw [List.take_succ_eq_append_getElem (by simp; omega), List.take_succ_eq_append_getElem hi, List.getElem_set_self, List.take_set_of_le (Nat.le_refl i), h]
def allFrom (p : Nat → Bool) (n i : Nat) : Bool := (List.range' i (n - i)).all p
theorem all_end (p : Nat → Bool) (n : Nat) : allFrom p n n = true := by simp [allFrom]
theorem all_step (p : Nat → Bool) (n i : Nat) (h : i < n) : allFrom p n i = (p i && allFrom p n (i + 1)) := by
  unfold allFrom
  rw [show n - i = (n - (i + 1)) + 1 by omega, List.range'_succ, List.all_cons]
theorem all_iff (p : Nat → Bool) (n i : Nat) : allFrom p n i = true ↔ ∀ j, i ≤ j → j < n → p j = true := by
  unfold allFrom
  rw [List.all_eq_true]
  constructor
  · intro h j h1 h2
    exact h j (List.mem_range'_1.2 ⟨h1, by omega⟩)
  · intro h j hj
    have := List.mem_range'_1.1 hj
    exact h j this.1 (by omega)
def cvPoint (x : S86) : S48 := ⟨x.f0, x.f1⟩
theorem rdlPoint_lt (l : List S86) (i : Nat) (h : i < l.length) : rd_T86 l (i : Int) = l[i] := by
  unfold rd_T86
  rw [Int.toNat_natCast, List.getD_eq_getElem?_getD, List.getElem?_eq_getElem h]
  rfl
theorem rdiPoint_lt (l : List S48) (i : Nat) (h : i < l.length) : rd_T48 l (i : Int) = l[i] := by
  unfold rd_T48
  rw [Int.toNat_natCast, List.getD_eq_getElem?_getD, List.getElem?_eq_getElem h]
  rfl
theorem toPoint_loop (l : List S86) (hl : l.length ≤ 1048576) : ∀ (d i : Nat) (x : List S48), i + d = l.length → x.length = l.length → x.take i = (l.map cvPoint).take i →
    Ev (fun k => laws_toPointS.l0 k l x (i : Int)) (l.map cvPoint) := by
  intro d
  induction d with
  | zero =>
    intro i x hi hx ht
    refine Ev.step (fun k => laws_toPointS.l0.eq_2 _ _ _ k) ?_
    simp only [if_neg (show ¬ (i : Int) < (l.length : Int) by omega)]
    rw [List.take_of_length_le (by omega), List.take_of_length_le (by simp; omega)] at ht
    subst ht
    exact Ev.now _
  | succ d ih =>
    intro i x hi hx ht
    refine Ev.step (fun k => laws_toPointS.l0.eq_2 _ _ _ k) ?_
    simp only [if_pos (show (i : Int) < (l.length : Int) by omega), if_pos (show (0 : Int) ≤ (i : Int) by omega), if_pos (show (i : Int) < (x.length : Int) by omega), laws_toPoint.f, Option.bind_some]
    rw [wrap_succ i (by omega), rdlPoint_lt l i (by omega), Int.toNat_natCast]
    refine ih (i + 1) _ (by omega) (by simp; omega) ?_
    have := set_take (l.map cvPoint) x i (by simp; omega) (by simp; omega) ht
    rw [List.getElem_map] at this
    exact this
theorem toPoints (l : List S86) (hl : l.length ≤ 1048576) : Ev (fun k => laws_toPointS.f k l) (l.map cvPoint) := by
  unfold laws_toPointS.f
  simp only [if_pos (show (0 : Int) ≤ (l.length : Int) by omega), Int.toNat_natCast, if_pos (show l.length ≤ 17592186044416 by omega)]
  exact toPoint_loop l hl l.length 0 _ (by omega) (by simp) (by simp)
theorem eqPoint_loop (l : List S48) (hl : l.length ≤ 1048577) : ∀ (d i : Nat), i + d = l.length →
    Ev (fun k => laws_eqPointS.l0 k l l (i : Int)) true := by
  intro d
  induction d with
  | zero =>
    intro i hi
    refine Ev.step (fun k => laws_eqPointS.l0.eq_2 _ _ _ k) ?_
    simp only [if_neg (show ¬ (i : Int) < (l.length : Int) by omega)]
    exact Ev.now _
  | succ d ih =>
    intro i hi
    refine Ev.step (fun k => laws_eqPointS.l0.eq_2 _ _ _ k) ?_
    simp only [if_pos (show (i : Int) < (l.length : Int) by omega), if_pos (show (0 : Int) ≤ (i : Int) by omega), laws_eqPoint.f, if_true, Option.bind_some]
    rw [wrap_succ i (by omega)]
    exact ih (i + 1) (by omega)
theorem eqPoints (l : List S48) (hl : l.length ≤ 1048577) : Ev (fun k => laws_eqPointS.f k l l) true := by
  unfold laws_eqPointS.f
  simp only [if_true]
  exact eqPoint_loop l hl l.length 0 (by omega)
theorem szPoints (l : List S86) (hl : l.length ≤ 9223372036854775807) : laws_szPointS.f l 1048576 = (some (if (1048576 : Int) - (l.length : Int) < 0 then (-1 : Int) else (1048576 : Int) - (l.length : Int)) : Option Int) := by
  unfold laws_szPointS.f
  rw [wrap_id (by omega) (by omega)]
  split <;> rfl
theorem spec_in (a b c : Int) : spec_l01In.f a b c = some (decide (b ≤ a ∧ a ≤ c)) := by
  unfold spec_l01In.f
  by_cases h : b ≤ a <;> simp [h]
theorem impl_in (a b c : Int) : impl_within.f a b c = some (decide (b ≤ a ∧ a ≤ c)) := by
  unfold impl_within.f
  by_cases h : b ≤ a <;> simp [h]
def inB (a b c : Int) : Bool := decide (b ≤ a ∧ a ≤ c)
theorem spec_coord (a : Int) : spec_l02In.f a = some (decide (-200 ≤ a ∧ a ≤ 200)) := by
  simp only [spec_l02In.f, spec_in, Option.bind_some]
theorem impl_coord (a : Int) : impl_coordOk.f a = some (decide (-200 ≤ a ∧ a ≤ 200)) := by
  simp only [impl_coordOk.f, impl_in, Option.bind_some]
theorem spec_point (a b : Int) : spec_PointOk.f a b = some (decide ((-200 ≤ a ∧ a ≤ 200) ∧ (-200 ≤ b ∧ b ≤ 200))) := by
  simp only [spec_PointOk.f, spec_coord, Option.bind_some]
  by_cases h : -200 ≤ a ∧ a ≤ 200
  · simp only [decide_eq_true h, if_true]
    congr 1
    exact decide_eq_decide.2 ⟨fun h' => ⟨h, h'⟩, fun h' => h'.2⟩
  · simp only [decide_eq_false h, Bool.false_eq_true, if_false]
    congr 1
    exact (decide_eq_false fun h' => h h'.1).symm
theorem impl_point (a b : Int) : impl_PointOk.f a b = some (decide ((-200 ≤ a ∧ a ≤ 200) ∧ (-200 ≤ b ∧ b ≤ 200))) := by
  simp only [impl_PointOk.f, impl_coord, Option.bind_some]
  by_cases h : -200 ≤ a ∧ a ≤ 200
  · simp only [decide_eq_true h, if_true]
    congr 1
    exact decide_eq_decide.2 ⟨fun h' => ⟨h, h'⟩, fun h' => h'.2⟩
  · simp only [decide_eq_false h, Bool.false_eq_true, if_false]
    congr 1
    exact (decide_eq_false fun h' => h h'.1).symm
def ptB (p : S48) : Bool := decide ((-200 ≤ p.f0 ∧ p.f0 ≤ 200) ∧ (-200 ≤ p.f1 ∧ p.f1 ≤ 200))
def pathB (l : List S48) : Bool := decide (l.length ≤ 8) && l.all ptB
theorem impl_points_loop (l : List S48) (hl : l.length ≤ 1048576) : ∀ (d i : Nat), i + d = l.length →
    Ev (fun k => impl_pointsOk.l0 k l (l.length : Int) (i : Int)) ((l.drop i).all ptB) := by
  intro d
  induction d with
  | zero =>
    intro i hi
    refine Ev.step (fun k => impl_pointsOk.l0.eq_2 _ _ _ k) ?_
    simp only [if_neg (show ¬ (i : Int) < (l.length : Int) by omega)]
    rw [List.drop_of_length_le (by omega)]
    exact Ev.now _
  | succ d ih =>
    intro i hi
    refine Ev.step (fun k => impl_pointsOk.l0.eq_2 _ _ _ k) ?_
    simp only [if_pos (show (i : Int) < (l.length : Int) by omega), if_pos (show (0 : Int) ≤ (i : Int) by omega), impl_point, Option.bind_some]
    rw [wrap_succ i (by omega), rdiPoint_lt l i (by omega), List.drop_eq_getElem_cons (show i < l.length by omega), List.all_cons]
    change Ev (fun k => if ptB l[i] = true then impl_pointsOk.l0 k l (l.length : Int) ((i + 1 : Nat) : Int) else some false) _
    cases hc : ptB l[i] with
    | true =>
      simp only [if_true, Bool.true_and]
      exact ih (i + 1) (by omega)
    | false =>
      simp only [Bool.false_and, Bool.false_eq_true, if_false]
      exact Ev.now _
theorem impl_points (l : List S48) (hl : l.length ≤ 1048576) : Ev (fun k => impl_pointsOk.f k l) (l.all ptB) := by
  unfold impl_pointsOk.f
  simpa using impl_points_loop l hl l.length 0 (by omega)
def hullM (a b c d : Int) : List S48 → Int × Int × Int × Int
  | [] => (a, b, c, d)
  | p :: l => hullM (mn a p.f0) (mn b p.f1) (mx c p.f0) (mx d p.f1) l
def boxOfM (l : List S48) : Int × Int × Int × Int :=
  match l with
  | [] => (0, 0, 0, 0)
  | p :: m => if (p :: m).all ptB = true then hullM p.f0 p.f1 p.f0 p.f1 (p :: m) else (0, 0, 0, 0)
theorem mn_self (a : Int) : mn a a = a := by
  unfold mn
  split <;> rfl
theorem mx_self (a : Int) : mx a a = a := by
  unfold mx
  split <;> rfl
theorem impl_hull_loop (l : List S48) (hl : l.length ≤ 1048576) : ∀ (r i : Nat) (a b c d : Int), i + r = l.length →
    Ev (fun k => impl_BoxOf.l0 k l (l.length : Int) (i : Int) a b c d) (hullM a b c d (l.drop i)) := by
  intro r
  induction r with
  | zero =>
    intro i a b c d hi
    refine Ev.step (fun k => impl_BoxOf.l0.eq_2 _ _ _ _ _ _ _ k) ?_
    simp only [if_neg (show ¬ (i : Int) < (l.length : Int) by omega)]
    rw [List.drop_of_length_le (by omega)]
    exact Ev.now _
  | succ r ih =>
    intro i a b c d hi
    refine Ev.step (fun k => impl_BoxOf.l0.eq_2 _ _ _ _ _ _ _ k) ?_
    simp only [if_pos (show (i : Int) < (l.length : Int) by omega), if_pos (show (0 : Int) ≤ (i : Int) by omega)]
    rw [wrap_succ i (by omega), rdiPoint_lt l i (by omega), List.drop_eq_getElem_cons (show i < l.length by omega), hullM]
    exact ih (i + 1) _ _ _ _ (by omega)
theorem impl_boxof (l : List S48) (hl : l.length ≤ 1048576) : Ev (fun k => impl_BoxOf.f k l) (boxOfM l) := by
  unfold impl_BoxOf.f
  by_cases h0 : l.length = 0
  · have : l = [] := List.length_eq_zero_iff.1 h0
    subst this
    simp only [if_pos (show (([] : List S48).length : Int) = 0 by simp)]
    refine Ev.step (fun k => impl_BoxOf.j0.eq_2 _ _ k) ?_
    simp only [if_true]
    exact Ev.now _
  · simp only [if_neg (show ¬ (l.length : Int) = 0 by omega)]
    refine Ev.bind (impl_points l hl) ?_
    refine Ev.step (fun k => impl_BoxOf.j0.eq_2 _ _ k) ?_
    have e : boxOfM l = if l.all ptB = true then hullM (rd_T48 l 0).f0 (rd_T48 l 0).f1 (rd_T48 l 0).f0 (rd_T48 l 0).f1 l else (0, 0, 0, 0) := by
      cases l with
      | nil => exact absurd rfl h0
      | cons p m => rfl
    rw [e]
    cases l.all ptB with
    | false =>
      simp only [Bool.not_false, if_true, Bool.false_eq_true, if_false]
      exact Ev.now _
    | true =>
      simp only [Bool.not_true, if_true, Bool.false_eq_true, if_false, if_pos (show 0 < (l.length : Int) by omega)]
      have := impl_hull_loop l hl l.length 0 (rd_T48 l 0).f0 (rd_T48 l 0).f1 (rd_T48 l 0).f0 (rd_T48 l 0).f1 (by omega)
      simpa using this
theorem spec_hull_loop (l : List S48) (hl : l.length ≤ 1048576) : ∀ (r i : Nat) (a b c d : Int), i + r = l.length → 0 < i →
    Ev (fun k => spec_BoxOf.l0 k l (i : Int) a b c d) (if (l.drop i).all ptB = true then hullM a b c d (l.drop i) else (0, 0, 0, 0)) := by
  intro r
  induction r with
  | zero =>
    intro i a b c d hi h0
    refine Ev.step (fun k => spec_BoxOf.l0.eq_2 _ _ _ _ _ _ k) ?_
    simp only [if_neg (show ¬ (i : Int) < (l.length : Int) by omega)]
    rw [List.drop_of_length_le (by omega)]
    exact Ev.now _
  | succ r ih =>
    intro i a b c d hi h0
    refine Ev.step (fun k => spec_BoxOf.l0.eq_2 _ _ _ _ _ _ k) ?_
    simp only [if_pos (show (i : Int) < (l.length : Int) by omega), if_pos (show (0 : Int) ≤ (i : Int) by omega), spec_point, Option.bind_some, if_neg (show ¬ (i : Int) = 0 by omega)]
    rw [wrap_succ i (by omega), rdiPoint_lt l i (by omega), List.drop_eq_getElem_cons (show i < l.length by omega), List.all_cons, hullM]
    change Ev (fun k => if ptB l[i] = true then _ else _) _
    cases ptB l[i] with
    | false =>
      simp only [Bool.false_eq_true, if_false, Bool.false_and]
      exact Ev.now _
    | true =>
      simp only [if_true, Bool.true_and]
      exact ih (i + 1) _ _ _ _ (by omega) (by omega)
theorem spec_boxof (l : List S48) (hl : l.length ≤ 1048576) : Ev (fun k => spec_BoxOf.f k l) (boxOfM l) := by
  unfold spec_BoxOf.f
  refine Ev.step (fun k => spec_BoxOf.l0.eq_2 _ _ _ _ _ _ k) ?_
  cases l with
  | nil =>
    simp only [if_neg (show ¬ (0 : Int) < (([] : List S48).length : Int) by simp)]
    exact Ev.now _
  | cons p m =>
    have h1 : rd_T48 (p :: m) 0 = p := rfl
    simp only [if_pos (show (0 : Int) < ((p :: m).length : Int) by rw [List.length_cons]; omega), if_pos (show (0 : Int) ≤ 0 by omega), spec_point, Option.bind_some, if_true, h1]
    have h := spec_hull_loop (p :: m) hl m.length 1 (mn p.f0 p.f0) (mn p.f1 p.f1) (mx p.f0 p.f0) (mx p.f1 p.f1) (by simp; omega) (by omega)
    have e : boxOfM (p :: m) = if ptB p = true then (if ((p :: m).drop 1).all ptB = true then hullM (mn p.f0 p.f0) (mn p.f1 p.f1) (mx p.f0 p.f0) (mx p.f1 p.f1) ((p :: m).drop 1) else (0, 0, 0, 0)) else (0, 0, 0, 0) := by
      unfold boxOfM
      simp only [List.all_cons, hullM, List.drop_succ_cons, List.drop_zero]
      by_cases hp : ptB p = true
      · simp only [hp, Bool.true_and, if_true]
      · simp only [eq_false_of_ne_true hp, Bool.false_and, Bool.false_eq_true, if_false]
    rw [e]
    change Ev (fun k => if ptB p = true then _ else _) _
    cases ptB p with
    | false =>
      simp only [Bool.false_eq_true, if_false]
      exact Ev.now _
    | true =>
      simp only [if_true]
      rw [show wrap64 (0 + 1) = ((1 : Nat) : Int) from wrap_succ 0 (by omega)]
      exact h
theorem FnExactBoxOf (l : List S86) (hl : l.length ≤ 9223372036854775807) (_ : ∀ x ∈ l, (Lit.int .i64 x.f0).wf = true ∧ (Lit.int .i64 x.f1).wf = true) : ∃ k, laws_FnExactBoxOf.f k l = some true := by
  refine Ev.rounds ?_
  simp only [laws_FnExactBoxOf.f, szPoints l hl, Option.bind_some]
  by_cases h : (1048576 : Int) - l.length < 0
  · simp only [if_pos h, if_pos (show (-1 : Int) < 0 by omega)]
    exact Ev.now _
  · simp only [if_neg h]
    have hm : (l.map cvPoint).length ≤ 1048576 := by
      simp
      omega
    refine Ev.bind (toPoints l (by omega)) ?_
    refine Ev.bind (spec_boxof _ hm) ?_
    refine Ev.bind (toPoints l (by omega)) ?_
    refine Ev.bind (impl_boxof _ hm) ?_
    simp only [laws_eqBox.f, if_true, Option.bind_some]
    refine Ev.bind (toPoints l (by omega)) ?_
    refine Ev.bind (eqPoints _ (by omega)) ?_
    simp only [if_true]
    exact Ev.now _

end Go.Proofs.Ytgpiboajpolmoaa.Pure

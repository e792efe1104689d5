/- The program's ShiftPath returns what the reference's returns, for all arguments. This is its pure statement, over numbers and lists, as printed from the program; the row is built on it.
   Conditions: none. -/
import Derived.Test.YtgpiboajpolmoaaPFnExactShiftPathx4
namespace Go.Proofs.Ytgpiboajpolmoaa.Pure
set_option linter.unusedSimpArgs false
set_option linter.unusedVariables false
open Go.RowKit Go.Proofs.Ytgpiboajpolmoaa.PFnExactShiftPath Go.Proofs.YtgpiboajpolmoaaW.PrintWords Go.Proofs.YtgpiboajpolmoaaW.PrintLast

theorem wrap_id {x : Int} (h0 : -9223372036854775808 ≤ x) (h1 : x ≤ 9223372036854775807) : wrap64 x = x := by
  unfold wrap64
  omega
theorem wrap_succ (i : Nat) (h : i < 4611686018427387904) : wrap64 ((i : Int) + 1) = ((i + 1 : Nat) : Int) := by
  rw [wrap_id (by omega) (by omega)]
  omega
theorem rd_lt (l : List Int) (i : Nat) (h : i < l.length) : rd l (i : Int) = l[i] := by
  unfold rd
  rw [Int.toNat_natCast, List.getD_eq_getElem?_getD, List.getElem?_eq_getElem h]
  rfl
theorem set_take {α : Type} (l x : List α) (i : Nat) (hi : i < l.length) (hx : x.length = l.length) (h : x.take i = l.take i) :
    (x.set i l[i]).take (i + 1) = l.take (i + 1) := by
  rw [List.take_succ_eq_append_getElem (by simp; omega), List.take_succ_eq_append_getElem hi, List.getElem_set_self, List.take_set_of_le (Nat.le_refl i), h]
def allFrom (p : Nat → Bool) (n i : Nat) : Bool := (List.range' i (n - i)).all p
theorem all_end (p : Nat → Bool) (n : Nat) : allFrom p n n = true := by simp [allFrom]
theorem all_step (p : Nat → Bool) (n i : Nat) (h : i < n) : allFrom p n i = (p i && allFrom p n (i + 1)) := by
  unfold allFrom
  rw [show n - i = (n - (i + 1)) + 1 by omega, List.range'_succ, List.all_cons]
theorem all_iff (p : Nat → Bool) (n i : Nat) : allFrom p n i = true ↔ ∀ j, i ≤ j → j < n → p j = true := by
  unfold allFrom
  rw [List.all_eq_true]
  constructor
  · intro h j h1 h2
    exact h j (List.mem_range'_1.2 ⟨h1, by omega⟩)
  · intro h j hj
    have := List.mem_range'_1.1 hj
    exact h j this.1 (by omega)
def cvPoint (x : S86) : S48 := ⟨x.f0, x.f1⟩
theorem rdlPoint_lt (l : List S86) (i : Nat) (h : i < l.length) : rd_T86 l (i : Int) = l[i] := by
  unfold rd_T86
  rw [Int.toNat_natCast, List.getD_eq_getElem?_getD, List.getElem?_eq_getElem h]
  rfl
theorem rdiPoint_lt (l : List S48) (i : Nat) (h : i < l.length) : rd_T48 l (i : Int) = l[i] := by
  unfold rd_T48
  rw [Int.toNat_natCast, List.getD_eq_getElem?_getD, List.getElem?_eq_getElem h]
  rfl
theorem toPoint_loop (l : List S86) (hl : l.length ≤ 1048576) : ∀ (d i : Nat) (x : List S48), i + d = l.length → x.length = l.length → x.take i = (l.map cvPoint).take i →
    Ev (fun k => laws_toPointS.l0 k l x (i : Int)) (l.map cvPoint) := by
  intro d
  induction d with
  | zero =>
    intro i x hi hx ht
    refine Ev.step (fun k => laws_toPointS.l0.eq_2 _ _ _ k) ?_
    simp only [if_neg (show ¬ (i : Int) < (l.length : Int) by omega)]
    rw [List.take_of_length_le (by omega), List.take_of_length_le (by simp; omega)] at ht
    subst ht
    exact Ev.now _
  | succ d ih =>
    intro i x hi hx ht
    refine Ev.step (fun k => laws_toPointS.l0.eq_2 _ _ _ k) ?_
    simp only [if_pos (show (i : Int) < (l.length : Int) by omega), if_pos (show (0 : Int) ≤ (i : Int) by omega), if_pos (show (i : Int) < (x.length : Int) by omega), laws_toPoint.f, Option.bind_some]
    rw [wrap_succ i (by omega), rdlPoint_lt l i (by omega), Int.toNat_natCast]
    refine ih (i + 1) _ (by omega) (by simp; omega) ?_
    have := set_take (l.map cvPoint) x i (by simp; omega) (by simp; omega) ht
    rw [List.getElem_map] at this
    exact this
theorem toPoints (l : List S86) (hl : l.length ≤ 1048576) : Ev (fun k => laws_toPointS.f k l) (l.map cvPoint) := by
  unfold laws_toPointS.f
  simp only [if_pos (show (0 : Int) ≤ (l.length : Int) by omega), Int.toNat_natCast, if_pos (show l.length ≤ 17592186044416 by omega)]
  exact toPoint_loop l hl l.length 0 _ (by omega) (by simp) (by simp)
theorem eqPoint_loop (l : List S48) (hl : l.length ≤ 1048577) : ∀ (d i : Nat), i + d = l.length →
    Ev (fun k => laws_eqPointS.l0 k l l (i : Int)) true := by
  intro d
  induction d with
  | zero =>
    intro i hi
    refine Ev.step (fun k => laws_eqPointS.l0.eq_2 _ _ _ k) ?_
    simp only [if_neg (show ¬ (i : Int) < (l.length : Int) by omega)]
    exact Ev.now _
  | succ d ih =>
    intro i hi
    refine Ev.step (fun k => laws_eqPointS.l0.eq_2 _ _ _ k) ?_
    simp only [if_pos (show (i : Int) < (l.length : Int) by omega), if_pos (show (0 : Int) ≤ (i : Int) by omega), laws_eqPoint.f, if_true, Option.bind_some]
    rw [wrap_succ i (by omega)]
    exact ih (i + 1) (by omega)
theorem eqPoints (l : List S48) (hl : l.length ≤ 1048577) : Ev (fun k => laws_eqPointS.f k l l) true := by
  unfold laws_eqPointS.f
  simp only [if_true]
  exact eqPoint_loop l hl l.length 0 (by omega)
theorem szPoints (l : List S86) (hl : l.length ≤ 9223372036854775807) : laws_szPointS.f l 1048576 = (some (if (1048576 : Int) - (l.length : Int) < 0 then (-1 : Int) else (1048576 : Int) - (l.length : Int)) : Option Int) := by
  unfold laws_szPointS.f
  rw [wrap_id (by omega) (by omega)]
  split <;> rfl
def markLPoint (n : Nat) : List S48 := (List.range n).map fun j : Nat => ⟨1 + 2 * (j : Int), 1 + 2 * (j : Int) + 1⟩
theorem markPoint_loop (n : Nat) (hn : n ≤ 1048576) : ∀ (d i : Nat) (x : List S48), i + d = n → x.length = n → x.take i = (markLPoint n).take i →
    Ev (fun k => laws_markPointS.l0 k x (1 + 2 * (i : Int)) (i : Int)) (1 + 2 * (n : Int), markLPoint n) := by
  intro d
  induction d with
  | zero =>
    intro i x hi hx ht
    refine Ev.step (fun k => laws_markPointS.l0.eq_2 _ _ _ k) ?_
    simp only [if_neg (show ¬ (i : Int) < (x.length : Int) by omega)]
    have hl : (markLPoint n).length = n := by simp [markLPoint]
    rw [List.take_of_length_le (by omega), List.take_of_length_le (l := markLPoint n) (by omega)] at ht
    subst ht
    rw [show i = n by omega]
    exact Ev.now _
  | succ d ih =>
    intro i x hi hx ht
    refine Ev.step (fun k => laws_markPointS.l0.eq_2 _ _ _ k) ?_
    simp only [if_pos (show (i : Int) < (x.length : Int) by omega), if_pos (show (0 : Int) ≤ (i : Int) by omega), Option.bind_some, Int.toNat_natCast]
    rw [rdiPoint_lt (x.set i ⟨1 + 2 * (i : Int), (rd_T48 x (i : Int)).f1⟩) i (by simp; omega), List.getElem_set_self, List.set_set, wrap_succ i (by omega), wrap_id (x := 1 + 2 * (i : Int) + 1) (by omega) (by omega), wrap_id (x := 1 + 2 * (i : Int) + 1 + 1) (by omega) (by omega)]
    have h := ih (i + 1) (x.set i ⟨1 + 2 * (i : Int), 1 + 2 * (i : Int) + 1⟩) (by omega) (by simp; omega) (by
      have h2 := set_take (markLPoint n) x i (by simp [markLPoint]; omega) (by simp [markLPoint]; omega) ht
      have h3 : (markLPoint n)[i]'(by simp [markLPoint]; omega) = ⟨1 + 2 * (i : Int), 1 + 2 * (i : Int) + 1⟩ := by simp [markLPoint]
      rw [h3] at h2
      exact h2)
    rw [show (1 : Int) + 2 * (i : Int) + 1 + 1 = 1 + 2 * ((i + 1 : Nat) : Int) by omega]
    exact h
theorem markPoints (l : List S48) (hl : l.length ≤ 1048576) : Ev (fun k => laws_markPointS.f k l 1) (1 + 2 * (l.length : Int), markLPoint l.length) := by
  unfold laws_markPointS.f
  exact markPoint_loop l.length hl l.length 0 l (by omega) rfl (by simp)
theorem heldPoint_loop (n : Nat) (hn : n ≤ 1048576) : ∀ (d i : Nat), i + d = n →
    Ev (fun k => laws_heldPointS.l0 k (markLPoint n) (1 + 2 * (i : Int)) (i : Int)) (1 + 2 * (n : Int)) := by
  intro d
  induction d with
  | zero =>
    intro i hi
    refine Ev.step (fun k => laws_heldPointS.l0.eq_2 _ _ _ k) ?_
    simp only [if_neg (show ¬ (i : Int) < ((markLPoint n).length : Int) by simp [markLPoint]; omega)]
    rw [show i = n by omega]
    exact Ev.now _
  | succ d ih =>
    intro i hi
    refine Ev.step (fun k => laws_heldPointS.l0.eq_2 _ _ _ k) ?_
    have h3 : rd_T48 (markLPoint n) (i : Int) = ⟨1 + 2 * (i : Int), 1 + 2 * (i : Int) + 1⟩ := by
      rw [rdiPoint_lt _ i (by simp [markLPoint]; omega)]
      simp [markLPoint]
    rw [h3, wrap_succ i (by omega), wrap_id (x := 1 + 2 * (i : Int) + 1) (by omega) (by omega), wrap_id (x := 1 + 2 * (i : Int) + 1 + 1) (by omega) (by omega)]
    simp only [if_pos (show (i : Int) < ((markLPoint n).length : Int) by simp [markLPoint]; omega), if_pos (show (0 : Int) ≤ (i : Int) by omega), if_true]
    rw [show (1 : Int) + 2 * (i : Int) + 1 + 1 = 1 + 2 * ((i + 1 : Nat) : Int) by omega]
    exact ih (i + 1) (by omega)
theorem heldPoints (n : Nat) (hn : n ≤ 1048576) : Ev (fun k => laws_heldPointS.f k (markLPoint n) 1) (1 + 2 * (n : Int)) := by
  unfold laws_heldPointS.f
  exact heldPoint_loop n hn n 0 (by omega)
theorem spec_in (a b c : Int) : spec_l01In.f a b c = some (decide (b ≤ a ∧ a ≤ c)) := by
  unfold spec_l01In.f
  by_cases h : b ≤ a <;> simp [h]
theorem impl_in (a b c : Int) : impl_within.f a b c = some (decide (b ≤ a ∧ a ≤ c)) := by
  unfold impl_within.f
  by_cases h : b ≤ a <;> simp [h]
def inB (a b c : Int) : Bool := decide (b ≤ a ∧ a ≤ c)
theorem spec_coord (a : Int) : spec_l02In.f a = some (decide (-200 ≤ a ∧ a ≤ 200)) := by
  simp only [spec_l02In.f, spec_in, Option.bind_some]
theorem impl_coord (a : Int) : impl_coordOk.f a = some (decide (-200 ≤ a ∧ a ≤ 200)) := by
  simp only [impl_coordOk.f, impl_in, Option.bind_some]
theorem spec_point (a b : Int) : spec_PointOk.f a b = some (decide ((-200 ≤ a ∧ a ≤ 200) ∧ (-200 ≤ b ∧ b ≤ 200))) := by
  simp only [spec_PointOk.f, spec_coord, Option.bind_some]
  by_cases h : -200 ≤ a ∧ a ≤ 200
  · simp only [decide_eq_true h, if_true]
    congr 1
    exact decide_eq_decide.2 ⟨fun h' => ⟨h, h'⟩, fun h' => h'.2⟩
  · simp only [decide_eq_false h, Bool.false_eq_true, if_false]
    congr 1
    exact (decide_eq_false fun h' => h h'.1).symm
theorem impl_point (a b : Int) : impl_PointOk.f a b = some (decide ((-200 ≤ a ∧ a ≤ 200) ∧ (-200 ≤ b ∧ b ≤ 200))) := by
  simp only [impl_PointOk.f, impl_coord, Option.bind_some]
  by_cases h : -200 ≤ a ∧ a ≤ 200
  · simp only [decide_eq_true h, if_true]
    congr 1
    exact decide_eq_decide.2 ⟨fun h' => ⟨h, h'⟩, fun h' => h'.2⟩
  · simp only [decide_eq_false h, Bool.false_eq_true, if_false]
    congr 1
    exact (decide_eq_false fun h' => h h'.1).symm
def ptB (p : S48) : Bool := decide ((-200 ≤ p.f0 ∧ p.f0 ≤ 200) ∧ (-200 ≤ p.f1 ∧ p.f1 ≤ 200))
def pathB (l : List S48) : Bool := decide (l.length ≤ 8) && l.all ptB
theorem impl_points_loop (l : List S48) (hl : l.length ≤ 1048576) : ∀ (d i : Nat), i + d = l.length →
    Ev (fun k => impl_pointsOk.l0 k l (l.length : Int) (i : Int)) ((l.drop i).all ptB) := by
  intro d
  induction d with
  | zero =>
    intro i hi
    refine Ev.step (fun k => impl_pointsOk.l0.eq_2 _ _ _ k) ?_
    simp only [if_neg (show ¬ (i : Int) < (l.length : Int) by omega)]
    rw [List.drop_of_length_le (by omega)]
    exact Ev.now _
  | succ d ih =>
    intro i hi
    refine Ev.step (fun k => impl_pointsOk.l0.eq_2 _ _ _ k) ?_
    simp only [if_pos (show (i : Int) < (l.length : Int) by omega), if_pos (show (0 : Int) ≤ (i : Int) by omega), impl_point, Option.bind_some]
    rw [wrap_succ i (by omega), rdiPoint_lt l i (by omega), List.drop_eq_getElem_cons (show i < l.length by omega), List.all_cons]
    change Ev (fun k => if ptB l[i] = true then impl_pointsOk.l0 k l (l.length : Int) ((i + 1 : Nat) : Int) else some false) _
    cases hc : ptB l[i] with
    | true =>
      simp only [if_true, Bool.true_and]
      exact ih (i + 1) (by omega)
    | false =>
      simp only [Bool.false_and, Bool.false_eq_true, if_false]
      exact Ev.now _
theorem impl_points (l : List S48) (hl : l.length ≤ 1048576) : Ev (fun k => impl_pointsOk.f k l) (l.all ptB) := by
  unfold impl_pointsOk.f
  simpa using impl_points_loop l hl l.length 0 (by omega)
def coB (x : Int) : Bool := decide (-200 ≤ x ∧ x ≤ 200)
def shP (dx dy : Int) (p : S48) : S48 := ⟨wrap64 (p.f0 + dx), wrap64 (p.f1 + dy)⟩
def shiftM (l : List S48) (dx dy : Int) : List S48 := if (coB dx && coB dy && l.all ptB && (l.map (shP dx dy)).all ptB) = true then l.map (shP dx dy) else []
theorem impl_shift_loop (l : List S48) (dx dy : Int) (hl : l.length ≤ 1048576) : ∀ (d i : Nat), i + d = l.length →
    Ev (fun k => impl_ShiftPath.l0 k dx dy ((l.take i).map (shP dx dy)) l (l.length : Int) (i : Int)) (if (l.map (shP dx dy)).all ptB = true then l.map (shP dx dy) else []) := by
  intro d
  induction d with
  | zero =>
    intro i hi
    refine Ev.step (fun k => impl_ShiftPath.l0.eq_2 _ _ _ _ _ _ k) ?_
    simp only [if_neg (show ¬ (i : Int) < (l.length : Int) by omega)]
    rw [List.take_of_length_le (by omega)]
    refine Ev.bind (impl_points _ (by simp; omega)) ?_
    cases (l.map (shP dx dy)).all ptB
    · simp only [Bool.false_eq_true, if_false]
      exact Ev.now _
    · simp only [if_true]
      exact Ev.now _
  | succ d ih =>
    intro i hi
    refine Ev.step (fun k => impl_ShiftPath.l0.eq_2 _ _ _ _ _ _ k) ?_
    have hlen : ((l.take i).map (shP dx dy)).length < 8796093022208 := by
      simp
      omega
    simp only [if_pos (show (i : Int) < (l.length : Int) by omega), if_pos (show (0 : Int) ≤ (i : Int) by omega), if_pos hlen]
    rw [wrap_succ i (by omega), rdiPoint_lt l i (by omega)]
    have e : (l.take i).map (shP dx dy) ++ [(⟨wrap64 (l[i].f0 + dx), wrap64 (l[i].f1 + dy)⟩ : S48)] = (l.take (i + 1)).map (shP dx dy) := by
      rw [List.take_succ_eq_append_getElem (by omega), List.map_append]
      rfl
    rw [e]
    exact ih (i + 1) (by omega)
theorem impl_shift (l : List S48) (dx dy : Int) (hl : l.length ≤ 1048576) : Ev (fun k => impl_ShiftPath.f k l dx dy) (shiftM l dx dy) := by
  unfold impl_ShiftPath.f shiftM
  have j1 : Ev (fun k => impl_ShiftPath.j0 k l dx dy true) [] := by
    refine Ev.step (fun k => impl_ShiftPath.j0.eq_2 _ _ _ _ k) ?_
    simp only [if_true]
    exact Ev.now _
  simp only [impl_coord, Option.bind_some]
  change Ev (fun k => if coB dx = true then if coB dy = true then _ else _ else _) _
  cases coB dx with
  | false =>
    simp only [Bool.false_eq_true, if_false, Bool.false_and]
    exact j1
  | true =>
    cases coB dy with
    | false =>
      simp only [Bool.false_eq_true, if_false, if_true, Bool.false_and, Bool.and_false]
      exact j1
    | true =>
      simp only [if_true, Bool.true_and]
      refine Ev.bind (impl_points l hl) ?_
      cases l.all ptB with
      | false =>
        simp only [Bool.not_false, Bool.false_eq_true, if_false, Bool.false_and]
        exact j1
      | true =>
        simp only [Bool.not_true, Bool.true_and]
        refine Ev.step (fun k => impl_ShiftPath.j0.eq_2 _ _ _ _ k) ?_
        simp only [Bool.false_eq_true, if_false]
        exact impl_shift_loop l dx dy hl l.length 0 (by omega)
theorem spec_shift_loop (l : List S48) (dx dy : Int) (hl : l.length ≤ 1048576) : ∀ (d i : Nat), i + d = l.length →
    Ev (fun k => spec_ShiftPath.l0 k l dx dy ((l.take i).map (shP dx dy)) (i : Int)) (if ((l.drop i).all ptB && ((l.drop i).map (shP dx dy)).all ptB) = true then l.map (shP dx dy) else []) := by
  intro d
  induction d with
  | zero =>
    intro i hi
    refine Ev.step (fun k => spec_ShiftPath.l0.eq_2 _ _ _ _ _ k) ?_
    simp only [if_neg (show ¬ (i : Int) < (l.length : Int) by omega)]
    rw [List.take_of_length_le (by omega), List.drop_of_length_le (by omega)]
    exact Ev.now _
  | succ d ih =>
    intro i hi
    refine Ev.step (fun k => spec_ShiftPath.l0.eq_2 _ _ _ _ _ k) ?_
    have hlen : ((l.take i).map (shP dx dy)).length < 8796093022208 := by
      simp
      omega
    simp only [if_pos (show (i : Int) < (l.length : Int) by omega), if_pos (show (0 : Int) ≤ (i : Int) by omega), if_pos hlen, spec_point, Option.bind_some]
    rw [wrap_succ i (by omega), rdiPoint_lt l i (by omega)]
    have e : (l.take i).map (shP dx dy) ++ [(⟨wrap64 (l[i].f0 + dx), wrap64 (l[i].f1 + dy)⟩ : S48)] = (l.take (i + 1)).map (shP dx dy) := by
      rw [List.take_succ_eq_append_getElem (by omega), List.map_append]
      rfl
    rw [e, List.drop_eq_getElem_cons (show i < l.length by omega), List.map_cons, List.all_cons, List.all_cons]
    change Ev (fun k => if ptB l[i] = true then if ptB (shP dx dy l[i]) = true then _ else _ else _) _
    have h := ih (i + 1) (by omega)
    cases ptB l[i] with
    | false =>
      simp only [Bool.false_eq_true, if_false, Bool.false_and]
      exact Ev.now _
    | true =>
      cases ptB (shP dx dy l[i]) with
      | false =>
        simp only [Bool.false_eq_true, if_false, if_true, Bool.false_and, Bool.and_false]
        exact Ev.now _
      | true =>
        simp only [if_true, Bool.true_and]
        exact h
theorem spec_shift (l : List S48) (dx dy : Int) (hl : l.length ≤ 1048576) : Ev (fun k => spec_ShiftPath.f k l dx dy) (shiftM l dx dy) := by
  unfold spec_ShiftPath.f shiftM
  have j1 : Ev (fun k => spec_ShiftPath.j0 k l dx dy [] true) [] := by
    refine Ev.step (fun k => spec_ShiftPath.j0.eq_2 _ _ _ _ _ k) ?_
    simp only [if_true]
    exact Ev.now _
  simp only [spec_coord, Option.bind_some]
  change Ev (fun k => if coB dx = true then spec_ShiftPath.j0 k l dx dy [] (!coB dy) else _) _
  cases coB dx with
  | false =>
    simp only [Bool.false_eq_true, if_false, Bool.false_and]
    exact j1
  | true =>
    cases coB dy with
    | false =>
      simp only [Bool.not_false, Bool.false_eq_true, if_false, if_true, Bool.false_and, Bool.and_false]
      exact j1
    | true =>
      simp only [Bool.not_true, if_true, Bool.true_and]
      refine Ev.step (fun k => spec_ShiftPath.j0.eq_2 _ _ _ _ _ k) ?_
      simp only [Bool.false_eq_true, if_false]
      exact spec_shift_loop l dx dy hl l.length 0 (by omega)
theorem shift_len (l : List S48) (dx dy : Int) : (shiftM l dx dy).length ≤ l.length := by
  unfold shiftM
  split <;> simp
theorem FnExactShiftPath (l : List S86) (dx dy : Int) (hl : l.length ≤ 9223372036854775807) (_ : ∀ x ∈ l, (Lit.int .i64 x.f0).wf = true ∧ (Lit.int .i64 x.f1).wf = true)
    (_ : (Lit.int .i64 dx).wf = true) (_ : (Lit.int .i64 dy).wf = true) : ∃ k, laws_FnExactShiftPath.f k l dx dy = some true := by
  refine Ev.rounds ?_
  simp only [laws_FnExactShiftPath.f, szPoints l hl, Option.bind_some]
  by_cases h : (1048576 : Int) - l.length < 0
  · simp only [if_pos h, if_pos (show (-1 : Int) < 0 by omega)]
    exact Ev.now _
  · simp only [if_neg h]
    have hm : (l.map cvPoint).length ≤ 1048576 := by
      simp
      omega
    have hs := shift_len (l.map cvPoint) dx dy
    refine Ev.bind (toPoints l (by omega)) ?_
    refine Ev.bind (spec_shift _ dx dy hm) ?_
    refine Ev.bind (toPoints l (by omega)) ?_
    refine Ev.bind (impl_shift _ dx dy hm) ?_
    refine Ev.bind (eqPoints _ (by omega)) ?_
    simp only [if_true]
    refine Ev.bind (toPoints l (by omega)) ?_
    refine Ev.bind (eqPoints _ (by omega)) ?_
    simp only [if_true]
    refine Ev.bind (markPoints _ hm) ?_
    simp only [if_neg (show ¬ (1 : Int) + 2 * ((l.map cvPoint).length : Int) < 0 by omega)]
    refine Ev.bind (eqPoints _ (by omega)) ?_
    simp only [Bool.not_true]
    refine Ev.step (fun k => laws_FnExactShiftPath.j0.eq_2 _ _ _ _ _ _ k) ?_
    simp only [Bool.false_eq_true, if_false]
    refine Ev.bind (markPoints _ (by omega)) ?_
    refine Ev.bind (heldPoints _ (by omega)) ?_
    simp only [if_neg (show ¬ (1 : Int) + 2 * ((shiftM (l.map cvPoint) dx dy).length : Int) < 0 by omega), if_true]
    refine Ev.bind (toPoints l (by omega)) ?_
    refine Ev.bind (impl_shift _ dx dy hm) ?_
    refine Ev.bind (eqPoints _ (by omega)) ?_
    simp only [if_true]
    refine Ev.bind (heldPoints _ (by omega)) ?_
    simp only [if_neg (show ¬ (1 : Int) + 2 * ((shiftM (l.map cvPoint) dx dy).length : Int) < 0 by omega), if_true]
    exact Ev.now _

end Go.Proofs.Ytgpiboajpolmoaa.Pure

/- The program's GraphicsOk returns what the reference's returns, for all arguments. This is its pure statement, over numbers and lists, as printed from the program; the row is built on it.
   Conditions: none. -/
import Derived.Test.YtmhnnmjjebolpaaPFnExactGraphicsOkx4
namespace Go.Proofs.Ytmhnnmjjebolpaa.Pure
set_option linter.unusedSimpArgs false
set_option linter.unusedVariables false
open Go.RowKit Go.Proofs.Ytmhnnmjjebolpaa.PFnExactGraphicsOk Go.Proofs.YtmhnnmjjebolpaaW.PrintWords Go.Proofs.YtmhnnmjjebolpaaW.PrintLast

theorem wrap_id {x : Int} (h0 : -9223372036854775808 ≤ x) (h1 : x ≤ 9223372036854775807) : wrap64 x = x := by
  unfold wrap64
  omega
theorem wrap_succ (i : Nat) (h : i < 4611686018427387904) : wrap64 ((i : Int) + 1) = ((i + 1 : Nat) : Int) := by
  rw [wrap_id (by omega) (by omega)]
  omega
theorem rd_lt (l : List Int) (i : Nat) (h : i < l.length) : rd l (i : Int) = l[i] := by
  unfold rd
  rw [Int.toNat_natCast, List.getD_eq_getElem?_getD, List.getElem?_eq_getElem h]
  rfl
theorem set_take {α : Type} (l x : List α) (i : Nat) (hi : i < l.length) (hx : x.length = l.length) (h : x.take i = l.take i) :
    (x.set i l[i]).take (i + 1) = l.take (i + 1) := by
  rw [List.take_succ_eq_append_getElem (by simp; omega), List.take_succ_eq_append_getElem hi, List.getElem_set_self, List.take_set_of_le (Nat.le_refl i), h]
def allFrom (p : Nat → Bool) (n i : Nat) : Bool := (List.range' i (n - i)).all p
theorem all_end (p : Nat → Bool) (n : Nat) : allFrom p n n = true := by simp [allFrom]
theorem all_step (p : Nat → Bool) (n i : Nat) (h : i < n) : allFrom p n i = (p i && allFrom p n (i + 1)) := by
  unfold allFrom
  rw [show n - i = (n - (i + 1)) + 1 by omega, List.range'_succ, List.all_cons]
theorem all_iff (p : Nat → Bool) (n i : Nat) : allFrom p n i = true ↔ ∀ j, i ≤ j → j < n → p j = true := by
  unfold allFrom
  rw [List.all_eq_true]
  constructor
  · intro h j h1 h2
    exact h j (List.mem_range'_1.2 ⟨h1, by omega⟩)
  · intro h j hj
    have := List.mem_range'_1.1 hj
    exact h j this.1 (by omega)
theorem spec_in (a b c : Int) : spec_l01In.f a b c = some (decide (b ≤ a ∧ a ≤ c)) := by
  unfold spec_l01In.f
  by_cases h : b ≤ a <;> simp [h]
theorem impl_in (a b c : Int) : impl_within.f a b c = some (decide (b ≤ a ∧ a ≤ c)) := by
  unfold impl_within.f
  by_cases h : b ≤ a <;> simp [h]
def inB (a b c : Int) : Bool := decide (b ≤ a ∧ a ≤ c)
theorem spec_coord (a : Int) : spec_l02In.f a = some (decide (-200 ≤ a ∧ a ≤ 200)) := by
  simp only [spec_l02In.f, spec_in, Option.bind_some]
theorem impl_coord (a : Int) : impl_coordOk.f a = some (decide (-200 ≤ a ∧ a ≤ 200)) := by
  simp only [impl_coordOk.f, impl_in, Option.bind_some]
theorem to_ints_loop (l : List Int) (hl : l.length ≤ 1048576) : ∀ (d i : Nat) (x : List Int), i + d = l.length → x.length = l.length → x.take i = l.take i →
    Ev (fun k => laws_toIntS.l0 k l x (i : Int)) l := by
  intro d
  induction d with
  | zero =>
    intro i x hi hx ht
    refine Ev.step (fun k => laws_toIntS.l0.eq_2 _ _ _ k) ?_
    simp only [if_neg (show ¬ (i : Int) < (l.length : Int) by omega)]
    rw [List.take_of_length_le (by omega), List.take_of_length_le (by omega)] at ht
    subst ht
    exact Ev.now _
  | succ d ih =>
    intro i x hi hx ht
    refine Ev.step (fun k => laws_toIntS.l0.eq_2 _ _ _ k) ?_
    simp only [if_pos (show (i : Int) < (l.length : Int) by omega), if_pos (show (0 : Int) ≤ (i : Int) by omega), if_pos (show (i : Int) < (x.length : Int) by omega)]
    rw [wrap_succ i (by omega), rd_lt l i (by omega), Int.toNat_natCast]
    exact ih (i + 1) _ (by omega) (by simp; omega) (set_take l x i (by omega) hx ht)
theorem to_ints (l : List Int) (hl : l.length ≤ 1048576) : Ev (fun k => laws_toIntS.f k l) l := by
  unfold laws_toIntS.f
  simp only [if_pos (show (0 : Int) ≤ (l.length : Int) by omega), Int.toNat_natCast, if_pos (show l.length ≤ 35184372088832 by omega)]
  exact to_ints_loop l hl l.length 0 _ (by omega) (by simp) (by simp)
theorem eq_ints_loop (l m : List Int) (h : l.length = m.length) (hl : l.length ≤ 1048577) : ∀ (d i : Nat), i + d = l.length →
    Ev (fun k => laws_eqIntS.l0 k l m (i : Int)) (decide (l.drop i = m.drop i)) := by
  intro d
  induction d with
  | zero =>
    intro i hi
    refine Ev.step (fun k => laws_eqIntS.l0.eq_2 _ _ _ k) ?_
    simp only [if_neg (show ¬ (i : Int) < (l.length : Int) by omega)]
    rw [List.drop_of_length_le (by omega), List.drop_of_length_le (by omega)]
    exact Ev.now _
  | succ d ih =>
    intro i hi
    refine Ev.step (fun k => laws_eqIntS.l0.eq_2 _ _ _ k) ?_
    simp only [if_pos (show (i : Int) < (l.length : Int) by omega), if_pos (show (0 : Int) ≤ (i : Int) by omega), if_pos (show (i : Int) < (m.length : Int) by omega)]
    rw [wrap_succ i (by omega), rd_lt l i (by omega), rd_lt m i (by omega)]
    rw [List.drop_eq_getElem_cons (show i < l.length by omega), List.drop_eq_getElem_cons (show i < m.length by omega)]
    by_cases hc : l[i] = m[i]
    · simp only [if_pos hc]
      have e : decide (l[i] :: l.drop (i + 1) = m[i] :: m.drop (i + 1)) = decide (l.drop (i + 1) = m.drop (i + 1)) := by
        rw [hc]
        exact decide_eq_decide.2 ⟨fun h => (List.cons.inj h).2, fun h => by rw [h]⟩
      rw [e]
      exact ih (i + 1) (by omega)
    · simp only [if_neg hc]
      have e : decide (l[i] :: l.drop (i + 1) = m[i] :: m.drop (i + 1)) = false :=
        decide_eq_false fun h => hc (List.cons.inj h).1
      rw [e]
      exact Ev.now _
theorem eq_ints (l m : List Int) (hl : l.length ≤ 1048577) : Ev (fun k => laws_eqIntS.f k l m) (decide (l = m)) := by
  unfold laws_eqIntS.f
  by_cases h : l.length = m.length
  · simp only [if_pos (show (l.length : Int) = (m.length : Int) by omega)]
    simpa using eq_ints_loop l m h hl l.length 0 (by omega)
  · simp only [if_neg (show ¬ (l.length : Int) = (m.length : Int) by omega)]
    have e : decide (l = m) = false := by
      rw [decide_eq_false_iff_not]
      intro h'
      exact h (by rw [h'])
    rw [e]
    exact Ev.now _
theorem eq_ints_self (l : List Int) (hl : l.length ≤ 1048577) : Ev (fun k => laws_eqIntS.f k l l) true := by
  have := eq_ints l l hl
  simpa using this
def okN (x : Int) : Bool := decide (-9999 ≤ x ∧ x ≤ 9999)
def stackB (l : List Int) : Bool := decide (l.length ≤ 12) && l.all okN
theorem spec_stack_loop (l : List Int) (hl : l.length ≤ 1048578) : ∀ (d i : Nat), i + d = l.length →
    Ev (fun k => spec_StackOk.l0 k l (i : Int)) (decide (l.length ≤ 12) && (l.drop i).all okN) := by
  intro d
  induction d with
  | zero =>
    intro i hi
    refine Ev.step (fun k => spec_StackOk.l0.eq_2 _ _ k) ?_
    simp only [if_neg (show ¬ (i : Int) < (l.length : Int) by omega)]
    rw [List.drop_of_length_le (by omega)]
    have e : decide ((l.length : Int) ≤ 12) = (decide (l.length ≤ 12) && List.all [] okN) := by
      simp
      omega
    rw [e]
    exact Ev.now _
  | succ d ih =>
    intro i hi
    refine Ev.step (fun k => spec_StackOk.l0.eq_2 _ _ k) ?_
    simp only [if_pos (show (i : Int) < (l.length : Int) by omega), if_pos (show (0 : Int) ≤ (i : Int) by omega), spec_in, Option.bind_some]
    rw [wrap_succ i (by omega), rd_lt l i (by omega), List.drop_eq_getElem_cons (show i < l.length by omega), List.all_cons]
    by_cases hc : -9999 ≤ l[i] ∧ l[i] ≤ 9999
    · have ho : okN l[i] = true := decide_eq_true hc
      simp only [decide_eq_true hc, if_true, ho, Bool.true_and]
      exact ih (i + 1) (by omega)
    · have ho : okN l[i] = false := decide_eq_false hc
      simp only [decide_eq_false hc, ho, Bool.false_and, Bool.and_false, Bool.false_eq_true, if_false]
      exact Ev.now _
theorem spec_stack (l : List Int) (hl : l.length ≤ 1048578) : Ev (fun k => spec_StackOk.f k l) (stackB l) := by
  unfold spec_StackOk.f stackB
  simpa using spec_stack_loop l hl l.length 0 (by omega)
theorem impl_stack_loop (l : List Int) (hl : l.length ≤ 12) : ∀ (d i : Nat), i + d = l.length →
    Ev (fun k => impl_StackOk.l0 k l (l.length : Int) (i : Int)) ((l.drop i).all okN) := by
  intro d
  induction d with
  | zero =>
    intro i hi
    refine Ev.step (fun k => impl_StackOk.l0.eq_2 _ _ _ k) ?_
    simp only [if_neg (show ¬ (i : Int) < (l.length : Int) by omega)]
    rw [List.drop_of_length_le (by omega)]
    exact Ev.now _
  | succ d ih =>
    intro i hi
    refine Ev.step (fun k => impl_StackOk.l0.eq_2 _ _ _ k) ?_
    simp only [if_pos (show (i : Int) < (l.length : Int) by omega), if_pos (show (0 : Int) ≤ (i : Int) by omega), impl_in, Option.bind_some]
    rw [wrap_succ i (by omega), rd_lt l i (by omega), List.drop_eq_getElem_cons (show i < l.length by omega), List.all_cons]
    by_cases hc : -9999 ≤ l[i] ∧ l[i] ≤ 9999
    · have ho : okN l[i] = true := decide_eq_true hc
      simp only [decide_eq_true hc, if_true, ho, Bool.true_and]
      exact ih (i + 1) (by omega)
    · have ho : okN l[i] = false := decide_eq_false hc
      simp only [decide_eq_false hc, ho, Bool.false_and, Bool.false_eq_true, if_false]
      exact Ev.now _
theorem impl_stack (l : List Int) : Ev (fun k => impl_StackOk.f k l) (stackB l) := by
  unfold impl_StackOk.f stackB
  by_cases h : l.length ≤ 12
  · simp only [if_neg (show ¬ (l.length : Int) > 12 by omega), decide_eq_true h, Bool.true_and]
    simpa using impl_stack_loop l h l.length 0 (by omega)
  · simp only [if_pos (show (l.length : Int) > 12 by omega), decide_eq_false h, Bool.false_and]
    exact Ev.now _
def cvPoint (x : S108) : S30 := ⟨x.f0, x.f1⟩
theorem rdlPoint_lt (l : List S108) (i : Nat) (h : i < l.length) : rd_T108 l (i : Int) = l[i] := by
  unfold rd_T108
  rw [Int.toNat_natCast, List.getD_eq_getElem?_getD, List.getElem?_eq_getElem h]
  rfl
theorem rdiPoint_lt (l : List S30) (i : Nat) (h : i < l.length) : rd_T30 l (i : Int) = l[i] := by
  unfold rd_T30
  rw [Int.toNat_natCast, List.getD_eq_getElem?_getD, List.getElem?_eq_getElem h]
  rfl
theorem toPoint_loop (l : List S108) (hl : l.length ≤ 1048576) : ∀ (d i : Nat) (x : List S30), i + d = l.length → x.length = l.length → x.take i = (l.map cvPoint).take i →
    Ev (fun k => laws_toPointS.l0 k l x (i : Int)) (l.map cvPoint) := by
  intro d
  induction d with
  | zero =>
    intro i x hi hx ht
    refine Ev.step (fun k => laws_toPointS.l0.eq_2 _ _ _ k) ?_
    simp only [if_neg (show ¬ (i : Int) < (l.length : Int) by omega)]
    rw [List.take_of_length_le (by omega), List.take_of_length_le (by simp; omega)] at ht
    subst ht
    exact Ev.now _
  | succ d ih =>
    intro i x hi hx ht
    refine Ev.step (fun k => laws_toPointS.l0.eq_2 _ _ _ k) ?_
    simp only [if_pos (show (i : Int) < (l.length : Int) by omega), if_pos (show (0 : Int) ≤ (i : Int) by omega), if_pos (show (i : Int) < (x.length : Int) by omega), laws_toPoint.f, Option.bind_some]
    rw [wrap_succ i (by omega), rdlPoint_lt l i (by omega), Int.toNat_natCast]
    refine ih (i + 1) _ (by omega) (by simp; omega) ?_
    have := set_take (l.map cvPoint) x i (by simp; omega) (by simp; omega) ht
    rw [List.getElem_map] at this
    exact this
theorem toPoints (l : List S108) (hl : l.length ≤ 1048576) : Ev (fun k => laws_toPointS.f k l) (l.map cvPoint) := by
  unfold laws_toPointS.f
  simp only [if_pos (show (0 : Int) ≤ (l.length : Int) by omega), Int.toNat_natCast, if_pos (show l.length ≤ 17592186044416 by omega)]
  exact toPoint_loop l hl l.length 0 _ (by omega) (by simp) (by simp)
theorem eqPoint_loop (l : List S30) (hl : l.length ≤ 1048577) : ∀ (d i : Nat), i + d = l.length →
    Ev (fun k => laws_eqPointS.l0 k l l (i : Int)) true := by
  intro d
  induction d with
  | zero =>
    intro i hi
    refine Ev.step (fun k => laws_eqPointS.l0.eq_2 _ _ _ k) ?_
    simp only [if_neg (show ¬ (i : Int) < (l.length : Int) by omega)]
    exact Ev.now _
  | succ d ih =>
    intro i hi
    refine Ev.step (fun k => laws_eqPointS.l0.eq_2 _ _ _ k) ?_
    simp only [if_pos (show (i : Int) < (l.length : Int) by omega), if_pos (show (0 : Int) ≤ (i : Int) by omega), laws_eqPoint.f, if_true, Option.bind_some]
    rw [wrap_succ i (by omega)]
    exact ih (i + 1) (by omega)
theorem eqPoints (l : List S30) (hl : l.length ≤ 1048577) : Ev (fun k => laws_eqPointS.f k l l) true := by
  unfold laws_eqPointS.f
  simp only [if_true]
  exact eqPoint_loop l hl l.length 0 (by omega)
theorem szPoints (l : List S108) (hl : l.length ≤ 9223372036854775807) : laws_szPointS.f l 1048576 = (some (if (1048576 : Int) - (l.length : Int) < 0 then (-1 : Int) else (1048576 : Int) - (l.length : Int)) : Option Int) := by
  unfold laws_szPointS.f
  rw [wrap_id (by omega) (by omega)]
  split <;> rfl
theorem spec_point (a b : Int) : spec_PointOk.f a b = some (decide ((-200 ≤ a ∧ a ≤ 200) ∧ (-200 ≤ b ∧ b ≤ 200))) := by
  simp only [spec_PointOk.f, spec_coord, Option.bind_some]
  by_cases h : -200 ≤ a ∧ a ≤ 200
  · simp only [decide_eq_true h, if_true]
    congr 1
    exact decide_eq_decide.2 ⟨fun h' => ⟨h, h'⟩, fun h' => h'.2⟩
  · simp only [decide_eq_false h, Bool.false_eq_true, if_false]
    congr 1
    exact (decide_eq_false fun h' => h h'.1).symm
theorem impl_point (a b : Int) : impl_PointOk.f a b = some (decide ((-200 ≤ a ∧ a ≤ 200) ∧ (-200 ≤ b ∧ b ≤ 200))) := by
  simp only [impl_PointOk.f, impl_coord, Option.bind_some]
  by_cases h : -200 ≤ a ∧ a ≤ 200
  · simp only [decide_eq_true h, if_true]
    congr 1
    exact decide_eq_decide.2 ⟨fun h' => ⟨h, h'⟩, fun h' => h'.2⟩
  · simp only [decide_eq_false h, Bool.false_eq_true, if_false]
    congr 1
    exact (decide_eq_false fun h' => h h'.1).symm
def ptB (p : S30) : Bool := decide ((-200 ≤ p.f0 ∧ p.f0 ≤ 200) ∧ (-200 ≤ p.f1 ∧ p.f1 ≤ 200))
def pathB (l : List S30) : Bool := decide (l.length ≤ 8) && l.all ptB
theorem spec_path_loop (l : List S30) (hl : l.length ≤ 1048576) : ∀ (d i : Nat), i + d = l.length →
    Ev (fun k => spec_l07Points.l0 k l (i : Int)) (decide (l.length ≤ 8) && (l.drop i).all ptB) := by
  intro d
  induction d with
  | zero =>
    intro i hi
    refine Ev.step (fun k => spec_l07Points.l0.eq_2 _ _ k) ?_
    simp only [if_neg (show ¬ (i : Int) < (l.length : Int) by omega)]
    rw [List.drop_of_length_le (by omega)]
    have e : decide ((l.length : Int) ≤ 8) = (decide (l.length ≤ 8) && List.all [] ptB) := by
      simp
      omega
    rw [e]
    exact Ev.now _
  | succ d ih =>
    intro i hi
    refine Ev.step (fun k => spec_l07Points.l0.eq_2 _ _ k) ?_
    simp only [if_pos (show (i : Int) < (l.length : Int) by omega), if_pos (show (0 : Int) ≤ (i : Int) by omega), spec_point, Option.bind_some]
    rw [wrap_succ i (by omega), rdiPoint_lt l i (by omega), List.drop_eq_getElem_cons (show i < l.length by omega), List.all_cons]
    change Ev (fun k => if ptB l[i] = true then spec_l07Points.l0 k l ((i + 1 : Nat) : Int) else some false) _
    cases hc : ptB l[i] with
    | true =>
      simp only [if_true, Bool.true_and]
      exact ih (i + 1) (by omega)
    | false =>
      simp only [Bool.false_and, Bool.and_false, Bool.false_eq_true, if_false]
      exact Ev.now _
theorem spec_path (l : List S30) (hl : l.length ≤ 1048576) : Ev (fun k => spec_l07Points.f k l) (pathB l) := by
  unfold spec_l07Points.f pathB
  simpa using spec_path_loop l hl l.length 0 (by omega)
theorem impl_points_loop (l : List S30) (hl : l.length ≤ 1048576) : ∀ (d i : Nat), i + d = l.length →
    Ev (fun k => impl_pointsOk.l0 k l (l.length : Int) (i : Int)) ((l.drop i).all ptB) := by
  intro d
  induction d with
  | zero =>
    intro i hi
    refine Ev.step (fun k => impl_pointsOk.l0.eq_2 _ _ _ k) ?_
    simp only [if_neg (show ¬ (i : Int) < (l.length : Int) by omega)]
    rw [List.drop_of_length_le (by omega)]
    exact Ev.now _
  | succ d ih =>
    intro i hi
    refine Ev.step (fun k => impl_pointsOk.l0.eq_2 _ _ _ k) ?_
    simp only [if_pos (show (i : Int) < (l.length : Int) by omega), if_pos (show (0 : Int) ≤ (i : Int) by omega), impl_point, Option.bind_some]
    rw [wrap_succ i (by omega), rdiPoint_lt l i (by omega), List.drop_eq_getElem_cons (show i < l.length by omega), List.all_cons]
    change Ev (fun k => if ptB l[i] = true then impl_pointsOk.l0 k l (l.length : Int) ((i + 1 : Nat) : Int) else some false) _
    cases hc : ptB l[i] with
    | true =>
      simp only [if_true, Bool.true_and]
      exact ih (i + 1) (by omega)
    | false =>
      simp only [Bool.false_and, Bool.false_eq_true, if_false]
      exact Ev.now _
theorem impl_points (l : List S30) (hl : l.length ≤ 1048576) : Ev (fun k => impl_pointsOk.f k l) (l.all ptB) := by
  unfold impl_pointsOk.f
  simpa using impl_points_loop l hl l.length 0 (by omega)
theorem turn_ev (a b c d : Int) : ∃ r, spec_TurnOk.f a b c d = some r ∧ impl_TurnOk.f a b c d = some r := by
  simp only [spec_TurnOk.f, impl_TurnOk.f, spec_in, impl_in, spec_coord, impl_coord, Option.bind_some]
  repeat' split
  all_goals exact ⟨_, rfl, rfl⟩
theorem box_ev (a b c d : Int) : ∃ r, spec_BoxOk.f a b c d = some r ∧ impl_BoxOk.f a b c d = some r := by
  simp only [spec_BoxOk.f, impl_BoxOk.f, spec_in, impl_in, spec_coord, impl_coord, Option.bind_some]
  repeat' split
  all_goals exact ⟨_, rfl, rfl⟩
theorem both_gfx (s : List Int) (t0 t1 t2 t3 : Int) (p : List S30) (g b0 b1 b2 b3 : Int) (hs : s.length ≤ 1048576) (hp : p.length ≤ 1048576) :
    ∃ r, Ev (fun k => spec_GraphicsOk.f k s t0 t1 t2 t3 p g b0 b1 b2 b3) r ∧ Ev (fun k => impl_GraphicsOk.f k s t0 t1 t2 t3 p g b0 b1 b2 b3) r := by
  obtain ⟨rt, st, it⟩ := turn_ev t0 t1 t2 t3
  obtain ⟨rb, sb, ib⟩ := box_ev b0 b1 b2 b3
  refine ⟨stackB s && (rt && (rb && (pathB p && decide (0 ≤ g ∧ g ≤ 255)))), ?_, ?_⟩
  · unfold spec_GraphicsOk.f
    refine Ev.bind (spec_stack s (by omega)) ?_
    simp only [st, sb, spec_in, Option.bind_some]
    cases stackB s with
    | false => simp only [Bool.false_eq_true, if_false, Bool.false_and]; exact Ev.now _
    | true =>
      simp only [if_true, Bool.true_and]
      cases rt with
      | false => simp only [Bool.false_eq_true, if_false, Bool.false_and]; exact Ev.now _
      | true =>
        simp only [if_true, Bool.true_and]
        cases rb with
        | false => simp only [Bool.false_eq_true, if_false, Bool.false_and]; exact Ev.now _
        | true =>
          simp only [if_true, Bool.true_and]
          refine Ev.bind (spec_path p hp) ?_
          cases pathB p with
          | false => simp only [Bool.false_eq_true, if_false, Bool.false_and]; exact Ev.now _
          | true => simp only [if_true, Bool.true_and]; exact Ev.now _
  · unfold impl_GraphicsOk.f
    refine Ev.bind (impl_stack s) ?_
    simp only [it, ib, impl_in, Option.bind_some]
    cases stackB s with
    | false => simp only [Bool.false_eq_true, if_false, Bool.false_and]; exact Ev.now _
    | true =>
      simp only [if_true, Bool.true_and]
      cases rt with
      | false => simp only [Bool.false_eq_true, if_false, Bool.false_and]; exact Ev.now _
      | true =>
        simp only [if_true, Bool.true_and]
        cases rb with
        | false => simp only [Bool.false_eq_true, if_false, Bool.false_and]; exact Ev.now _
        | true =>
          simp only [if_true, Bool.true_and]
          unfold pathB
          by_cases h8 : (p.length : Int) ≤ 8
          · simp only [if_pos h8, decide_eq_true (show p.length ≤ 8 by omega), Bool.true_and]
            refine Ev.bind (impl_points p hp) ?_
            cases p.all ptB with
            | false => simp only [Bool.false_eq_true, if_false, Bool.false_and]; exact Ev.now _
            | true => simp only [if_true, Bool.true_and]; exact Ev.now _
          · simp only [if_neg h8, decide_eq_false (show ¬ p.length ≤ 8 by omega), Bool.false_and]
            exact Ev.now _
theorem to_gfx (s : List Int) (t0 t1 t2 t3 : Int) (p : List S108) (g b0 b1 b2 b3 : Int) (hs : s.length ≤ 1048576) (hp : p.length ≤ 1048576) :
    Ev (fun k => laws_toGraphics.f k s t0 t1 t2 t3 p g b0 b1 b2 b3) (s, t0, t1, t2, t3, p.map cvPoint, g, b0, b1, b2, b3) := by
  unfold laws_toGraphics.f
  refine Ev.bind (to_ints s hs) ?_
  simp only [laws_toTurn.f, laws_toBox.f, Option.bind_some]
  refine Ev.bind (toPoints p hp) ?_
  exact Ev.now _
theorem eq_gfx (s : List Int) (t0 t1 t2 t3 : Int) (p : List S30) (g b0 b1 b2 b3 : Int) (hs : s.length ≤ 1048576) (hp : p.length ≤ 1048576) :
    Ev (fun k => laws_eqGraphics.f k s t0 t1 t2 t3 p g b0 b1 b2 b3 s t0 t1 t2 t3 p g b0 b1 b2 b3) true := by
  unfold laws_eqGraphics.f
  refine Ev.bind (eq_ints_self s (by omega)) ?_
  simp only [laws_eqTurn.f, laws_eqBox.f, if_true, Option.bind_some]
  refine Ev.bind (eqPoints p (by omega)) ?_
  simp only [if_true]
  exact Ev.now _
theorem FnExactGraphicsOk (s : List Int) (t0 t1 t2 t3 : Int) (p : List S108) (g b0 b1 b2 b3 : Int) (hs : s.length ≤ 9223372036854775807) (hp : p.length ≤ 9223372036854775807) :
    ∃ k, laws_FnExactGraphicsOk.f k s t0 t1 t2 t3 p g b0 b1 b2 b3 = some true := by
  refine Ev.rounds ?_
  unfold laws_FnExactGraphicsOk.f laws_szGraphics.f laws_szIntS.f
  rw [wrap_id (x := 1048576 - (s.length : Int)) (by omega) (by omega)]
  by_cases h1 : (1048576 : Int) - (s.length : Int) < 0
  · simp only [if_pos h1, Option.bind_some, if_pos (show (-1 : Int) < 0 by omega)]
    exact Ev.now _
  simp only [if_neg h1, Option.bind_some, laws_szPointS.f]
  rw [wrap_id (x := 1048576 - (s.length : Int) - (p.length : Int)) (by omega) (by omega)]
  by_cases h2 : (1048576 : Int) - (s.length : Int) - (p.length : Int) < 0
  · simp only [if_pos h2, Option.bind_some, if_pos (show (-1 : Int) < 0 by omega)]
    exact Ev.now _
  simp only [if_neg h2, Option.bind_some]
  have hs : s.length ≤ 1048576 := by omega
  have hp : p.length ≤ 1048576 := by omega
  have hq : (p.map cvPoint).length ≤ 1048576 := by
    rw [List.length_map]
    exact hp
  obtain ⟨r, e1, e2⟩ := both_gfx s t0 t1 t2 t3 (p.map cvPoint) g b0 b1 b2 b3 hs hq
  have e3 := to_gfx s t0 t1 t2 t3 p g b0 b1 b2 b3 hs hp
  refine Ev.bind e3 ?_
  refine Ev.bind e1 ?_
  refine Ev.bind e3 ?_
  refine Ev.bind e2 ?_
  simp only [bne_self_eq_false, Bool.false_eq_true, if_false]
  refine Ev.bind e3 ?_
  refine Ev.bind (eq_gfx s t0 t1 t2 t3 (p.map cvPoint) g b0 b1 b2 b3 hs hq) ?_
  simp only [if_true]
  exact Ev.now _

end Go.Proofs.Ytmhnnmjjebolpaa.Pure

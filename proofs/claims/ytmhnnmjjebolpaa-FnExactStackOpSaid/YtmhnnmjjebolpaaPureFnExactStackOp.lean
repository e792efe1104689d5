/- The program's StackOp returns what the reference's returns, for all arguments. This is its pure statement, over numbers and lists, as printed from the program; the row is built on it.
   Conditions: none. -/
import Derived.Test.YtmhnnmjjebolpaaGFnExactStackOpx6
namespace Go.Proofs.Ytmhnnmjjebolpaa.Pure
set_option linter.unusedSimpArgs false
set_option linter.unusedVariables false
open Go.RowKit Go.Proofs.Ytmhnnmjjebolpaa.GFnExactStackOp Go.Proofs.YtmhnnmjjebolpaaW.PrintWords Go.Proofs.YtmhnnmjjebolpaaW.PrintLast

theorem wrap_id {x : Int} (h0 : -9223372036854775808 ≤ x) (h1 : x ≤ 9223372036854775807) : wrap64 x = x := by
  unfold wrap64
  omega
theorem wrap_succ (i : Nat) (h : i < 4611686018427387904) : wrap64 ((i : Int) + 1) = ((i + 1 : Nat) : Int) := by
  rw [wrap_id (by omega) (by omega)]
  omega
theorem rd_lt (l : List Int) (i : Nat) (h : i < l.length) : rd l (i : Int) = l[i] := by
  unfold rd
  rw [Int.toNat_natCast, List.getD_eq_getElem?_getD, List.getElem?_eq_getElem h]
  rfl
theorem set_take {α : Type} (l x : List α) (i : Nat) (hi : i < l.length) (hx : x.length = l.length) (h : x.take i = l.take i) :
    (x.set i l[i]).take (i + 1) = l.take (i + 1) := by
  rw [List.take_succ_eq_append_getElem (by simp; omega), List.take_succ_eq_append_getElem hi, List.getElem_set_self, List.take_set_of_le (Nat.le_refl i), h]
def allFrom (p : Nat → Bool) (n i : Nat) : Bool := (List.range' i (n - i)).all p
theorem all_end (p : Nat → Bool) (n : Nat) : allFrom p n n = true := by simp [allFrom]
theorem all_step (p : Nat → Bool) (n i : Nat) (h : i < n) : allFrom p n i = (p i && allFrom p n (i + 1)) := by
  unfold allFrom
  rw [show n - i = (n - (i + 1)) + 1 by omega, List.range'_succ, List.all_cons]
theorem all_iff (p : Nat → Bool) (n i : Nat) : allFrom p n i = true ↔ ∀ j, i ≤ j → j < n → p j = true := by
  unfold allFrom
  rw [List.all_eq_true]
  constructor
  · intro h j h1 h2
    exact h j (List.mem_range'_1.2 ⟨h1, by omega⟩)
  · intro h j hj
    have := List.mem_range'_1.1 hj
    exact h j this.1 (by omega)
theorem spec_in (a b c : Int) : spec_l01In.f a b c = some (decide (b ≤ a ∧ a ≤ c)) := by
  unfold spec_l01In.f
  by_cases h : b ≤ a <;> simp [h]
theorem impl_in (a b c : Int) : impl_within.f a b c = some (decide (b ≤ a ∧ a ≤ c)) := by
  unfold impl_within.f
  by_cases h : b ≤ a <;> simp [h]
theorem to_ints_loop (l : List Int) (hl : l.length ≤ 1048576) : ∀ (d i : Nat) (x : List Int), i + d = l.length → x.length = l.length → x.take i = l.take i →
    Ev (fun k => laws_toIntS.l0 k l x (i : Int)) l := by
  intro d
  induction d with
  | zero =>
    intro i x hi hx ht
    refine Ev.step (fun k => laws_toIntS.l0.eq_2 _ _ _ k) ?_
    simp only [if_neg (show ¬ (i : Int) < (l.length : Int) by omega)]
    rw [List.take_of_length_le (by omega), List.take_of_length_le (by omega)] at ht
    subst ht
    exact Ev.now _
  | succ d ih =>
    intro i x hi hx ht
    refine Ev.step (fun k => laws_toIntS.l0.eq_2 _ _ _ k) ?_
    simp only [if_pos (show (i : Int) < (l.length : Int) by omega), if_pos (show (0 : Int) ≤ (i : Int) by omega), if_pos (show (i : Int) < (x.length : Int) by omega)]
    rw [wrap_succ i (by omega), rd_lt l i (by omega), Int.toNat_natCast]
    exact ih (i + 1) _ (by omega) (by simp; omega) (set_take l x i (by omega) hx ht)
theorem to_ints (l : List Int) (hl : l.length ≤ 1048576) : Ev (fun k => laws_toIntS.f k l) l := by
  unfold laws_toIntS.f
  simp only [if_pos (show (0 : Int) ≤ (l.length : Int) by omega), Int.toNat_natCast, if_pos (show l.length ≤ 35184372088832 by omega)]
  exact to_ints_loop l hl l.length 0 _ (by omega) (by simp) (by simp)
theorem eq_ints_loop (l m : List Int) (h : l.length = m.length) (hl : l.length ≤ 1048577) : ∀ (d i : Nat), i + d = l.length →
    Ev (fun k => laws_eqIntS.l0 k l m (i : Int)) (decide (l.drop i = m.drop i)) := by
  intro d
  induction d with
  | zero =>
    intro i hi
    refine Ev.step (fun k => laws_eqIntS.l0.eq_2 _ _ _ k) ?_
    simp only [if_neg (show ¬ (i : Int) < (l.length : Int) by omega)]
    rw [List.drop_of_length_le (by omega), List.drop_of_length_le (by omega)]
    exact Ev.now _
  | succ d ih =>
    intro i hi
    refine Ev.step (fun k => laws_eqIntS.l0.eq_2 _ _ _ k) ?_
    simp only [if_pos (show (i : Int) < (l.length : Int) by omega), if_pos (show (0 : Int) ≤ (i : Int) by omega), if_pos (show (i : Int) < (m.length : Int) by omega)]
    rw [wrap_succ i (by omega), rd_lt l i (by omega), rd_lt m i (by omega)]
    rw [List.drop_eq_getElem_cons (show i < l.length by omega), List.drop_eq_getElem_cons (show i < m.length by omega)]
    by_cases hc : l[i] = m[i]
    · simp only [if_pos hc]
      have e : decide (l[i] :: l.drop (i + 1) = m[i] :: m.drop (i + 1)) = decide (l.drop (i + 1) = m.drop (i + 1)) := by
        rw [hc]
        exact decide_eq_decide.2 ⟨fun h => (List.cons.inj h).2, fun h => by rw [h]⟩
      rw [e]
      exact ih (i + 1) (by omega)
    · simp only [if_neg hc]
      have e : decide (l[i] :: l.drop (i + 1) = m[i] :: m.drop (i + 1)) = false :=
        decide_eq_false fun h => hc (List.cons.inj h).1
      rw [e]
      exact Ev.now _
theorem eq_ints (l m : List Int) (hl : l.length ≤ 1048577) : Ev (fun k => laws_eqIntS.f k l m) (decide (l = m)) := by
  unfold laws_eqIntS.f
  by_cases h : l.length = m.length
  · simp only [if_pos (show (l.length : Int) = (m.length : Int) by omega)]
    simpa using eq_ints_loop l m h hl l.length 0 (by omega)
  · simp only [if_neg (show ¬ (l.length : Int) = (m.length : Int) by omega)]
    have e : decide (l = m) = false := by
      rw [decide_eq_false_iff_not]
      intro h'
      exact h (by rw [h'])
    rw [e]
    exact Ev.now _
theorem eq_ints_self (l : List Int) (hl : l.length ≤ 1048577) : Ev (fun k => laws_eqIntS.f k l l) true := by
  have := eq_ints l l hl
  simpa using this
def okN (x : Int) : Bool := decide (-9999 ≤ x ∧ x ≤ 9999)
def stackB (l : List Int) : Bool := decide (l.length ≤ 12) && l.all okN
theorem spec_stack_loop (l : List Int) (hl : l.length ≤ 1048578) : ∀ (d i : Nat), i + d = l.length →
    Ev (fun k => spec_StackOk.l0 k l (i : Int)) (decide (l.length ≤ 12) && (l.drop i).all okN) := by
  intro d
  induction d with
  | zero =>
    intro i hi
    refine Ev.step (fun k => spec_StackOk.l0.eq_2 _ _ k) ?_
    simp only [if_neg (show ¬ (i : Int) < (l.length : Int) by omega)]
    rw [List.drop_of_length_le (by omega)]
    have e : decide ((l.length : Int) ≤ 12) = (decide (l.length ≤ 12) && List.all [] okN) := by
      simp
      omega
    rw [e]
    exact Ev.now _
  | succ d ih =>
    intro i hi
    refine Ev.step (fun k => spec_StackOk.l0.eq_2 _ _ k) ?_
    simp only [if_pos (show (i : Int) < (l.length : Int) by omega), if_pos (show (0 : Int) ≤ (i : Int) by omega), spec_in, Option.bind_some]
    rw [wrap_succ i (by omega), rd_lt l i (by omega), List.drop_eq_getElem_cons (show i < l.length by omega), List.all_cons]
    by_cases hc : -9999 ≤ l[i] ∧ l[i] ≤ 9999
    · have ho : okN l[i] = true := decide_eq_true hc
      simp only [decide_eq_true hc, if_true, ho, Bool.true_and]
      exact ih (i + 1) (by omega)
    · have ho : okN l[i] = false := decide_eq_false hc
      simp only [decide_eq_false hc, ho, Bool.false_and, Bool.and_false, Bool.false_eq_true, if_false]
      exact Ev.now _
theorem spec_stack (l : List Int) (hl : l.length ≤ 1048578) : Ev (fun k => spec_StackOk.f k l) (stackB l) := by
  unfold spec_StackOk.f stackB
  simpa using spec_stack_loop l hl l.length 0 (by omega)
theorem impl_stack_loop (l : List Int) (hl : l.length ≤ 12) : ∀ (d i : Nat), i + d = l.length →
    Ev (fun k => impl_StackOk.l0 k l (l.length : Int) (i : Int)) ((l.drop i).all okN) := by
  intro d
  induction d with
  | zero =>
    intro i hi
    refine Ev.step (fun k => impl_StackOk.l0.eq_2 _ _ _ k) ?_
    simp only [if_neg (show ¬ (i : Int) < (l.length : Int) by omega)]
    rw [List.drop_of_length_le (by omega)]
    exact Ev.now _
  | succ d ih =>
    intro i hi
    refine Ev.step (fun k => impl_StackOk.l0.eq_2 _ _ _ k) ?_
    simp only [if_pos (show (i : Int) < (l.length : Int) by omega), if_pos (show (0 : Int) ≤ (i : Int) by omega), impl_in, Option.bind_some]
    rw [wrap_succ i (by omega), rd_lt l i (by omega), List.drop_eq_getElem_cons (show i < l.length by omega), List.all_cons]
    by_cases hc : -9999 ≤ l[i] ∧ l[i] ≤ 9999
    · have ho : okN l[i] = true := decide_eq_true hc
      simp only [decide_eq_true hc, if_true, ho, Bool.true_and]
      exact ih (i + 1) (by omega)
    · have ho : okN l[i] = false := decide_eq_false hc
      simp only [decide_eq_false hc, ho, Bool.false_and, Bool.false_eq_true, if_false]
      exact Ev.now _
theorem impl_stack (l : List Int) : Ev (fun k => impl_StackOk.f k l) (stackB l) := by
  unfold impl_StackOk.f stackB
  by_cases h : l.length ≤ 12
  · simp only [if_neg (show ¬ (l.length : Int) > 12 by omega), decide_eq_true h, Bool.true_and]
    simpa using impl_stack_loop l h l.length 0 (by omega)
  · simp only [if_pos (show (l.length : Int) > 12 by omega), decide_eq_false h, Bool.false_and]
    exact Ev.now _
def markI (a : Int) (n : Nat) : List Int := (List.range n).map fun j : Nat => a + (j : Int)
theorem markI_len (a : Int) (n : Nat) : (markI a n).length = n := by simp [markI]
theorem markI_at (a : Int) (n i : Nat) (h : i < n) : (markI a n)[i]'(by rw [markI_len]; exact h) = a + (i : Int) := by simp [markI]
theorem mark_int_loop (a : Int) (ha : 0 ≤ a ∧ a ≤ 10000000) (n : Nat) (hn : n ≤ 1048578) : ∀ (d i : Nat) (x : List Int), i + d = n → x.length = n → x.take i = (markI a n).take i →
    Ev (fun k => laws_markIntS.l0 k x (a + (i : Int)) (i : Int)) (a + (n : Int), markI a n) := by
  intro d
  induction d with
  | zero =>
    intro i x hi hx ht
    refine Ev.step (fun k => laws_markIntS.l0.eq_2 _ _ _ k) ?_
    simp only [if_neg (show ¬ (i : Int) < (x.length : Int) by omega)]
    have hl := markI_len a n
    rw [List.take_of_length_le (by omega), List.take_of_length_le (l := markI a n) (by omega)] at ht
    subst ht
    rw [show i = n by omega]
    exact Ev.now _
  | succ d ih =>
    intro i x hi hx ht
    refine Ev.step (fun k => laws_markIntS.l0.eq_2 _ _ _ k) ?_
    simp only [if_pos (show (i : Int) < (x.length : Int) by omega), if_pos (show (0 : Int) ≤ (i : Int) by omega), Int.toNat_natCast]
    rw [wrap_succ i (by omega), wrap_id (x := a + (i : Int) + 1) (by omega) (by omega)]
    have hl := markI_len a n
    have h := ih (i + 1) (x.set i (a + (i : Int))) (by omega) (by simp; omega) (by
      have h2 := set_take (markI a n) x i (by omega) (by omega) ht
      rw [markI_at a n i (by omega)] at h2
      exact h2)
    rw [show a + (i : Int) + 1 = a + ((i + 1 : Nat) : Int) by omega]
    exact h
theorem mark_ints (a : Int) (ha : 0 ≤ a ∧ a ≤ 10000000) (l : List Int) (hl : l.length ≤ 1048578) : Ev (fun k => laws_markIntS.f k l a) (a + (l.length : Int), markI a l.length) := by
  unfold laws_markIntS.f
  have := mark_int_loop a ha l.length hl l.length 0 l (by omega) rfl (by simp)
  simpa using this
theorem held_int_loop (a : Int) (ha : 0 ≤ a ∧ a ≤ 10000000) (n : Nat) (hn : n ≤ 1048578) : ∀ (d i : Nat), i + d = n →
    Ev (fun k => laws_heldIntS.l0 k (markI a n) (a + (i : Int)) (i : Int)) (a + (n : Int)) := by
  intro d
  have hl := markI_len a n
  induction d with
  | zero =>
    intro i hi
    refine Ev.step (fun k => laws_heldIntS.l0.eq_2 _ _ _ k) ?_
    simp only [if_neg (show ¬ (i : Int) < ((markI a n).length : Int) by omega)]
    rw [show i = n by omega]
    exact Ev.now _
  | succ d ih =>
    intro i hi
    refine Ev.step (fun k => laws_heldIntS.l0.eq_2 _ _ _ k) ?_
    have h3 : rd (markI a n) (i : Int) = a + (i : Int) := by
      rw [rd_lt _ i (by omega), markI_at a n i (by omega)]
    rw [h3, wrap_succ i (by omega), wrap_id (x := a + (i : Int) + 1) (by omega) (by omega)]
    simp only [if_pos (show (i : Int) < ((markI a n).length : Int) by omega), if_pos (show (0 : Int) ≤ (i : Int) by omega), if_true]
    rw [show a + (i : Int) + 1 = a + ((i + 1 : Nat) : Int) by omega]
    exact ih (i + 1) (by omega)
theorem held_ints (a : Int) (ha : 0 ≤ a ∧ a ≤ 10000000) (n : Nat) (hn : n ≤ 1048578) : Ev (fun k => laws_heldIntS.f k (markI a n) a) (a + (n : Int)) := by
  unfold laws_heldIntS.f
  have := held_int_loop a ha n hn n 0 (by omega)
  simpa using this
theorem spec_copy (l : List Int) (h : l.length ≤ 1048578) : spec_l05Copy.f l = some l := by
  unfold spec_l05Copy.f
  simp only [Option.bind_some, List.length_nil, List.nil_append]
  rw [if_pos (by omega)]
theorem impl_clone (l : List Int) (h : l.length ≤ 1048578) : slices_Clone_int_int.f l = some l := by
  unfold slices_Clone_int_int.f
  rw [if_pos (by omega)]
theorem stack_len (l : List Int) (h : stackB l = true) : l.length ≤ 12 := by
  unfold stackB at h
  rw [Bool.and_eq_true] at h
  exact of_decide_eq_true h.1
def takeM (l : List Int) (n : Int) : List Int × List Int × Bool := if (stackB l && decide (0 ≤ n ∧ n ≤ (l.length : Int))) = true then (l.take (l.length - n.toNat), l.drop (l.length - n.toNat), true) else (l, [], false)
theorem spec_take (l : List Int) (n : Int) (hl : l.length ≤ 1048578) : Ev (fun k => spec_TakeNumbers.f k l n) (takeM l n) := by
  unfold spec_TakeNumbers.f takeM
  refine Ev.bind (spec_stack l hl) ?_
  have j1 : Ev (fun k => spec_TakeNumbers.j0 k l n true) (l, [], false) := by
    refine Ev.step (fun k => spec_TakeNumbers.j0.eq_2 _ _ _ k) ?_
    simp only [if_true, spec_copy l hl, Option.bind_some]
    exact Ev.now _
  cases h : stackB l with
  | false =>
    simp only [Bool.false_eq_true, if_false, Bool.false_and]
    exact j1
  | true =>
    have h12 := stack_len l h
    simp only [if_true, Bool.true_and, spec_in, Option.bind_some]
    by_cases hn : 0 ≤ n ∧ n ≤ (l.length : Int)
    · simp only [decide_eq_true hn, Bool.not_true, if_true]
      refine Ev.step (fun k => spec_TakeNumbers.j0.eq_2 _ _ _ k) ?_
      have e : (((l.length : Int) - n)).toNat = l.length - n.toNat := by omega
      rw [wrap_id (x := (l.length : Int) - n) (by omega) (by omega), e]
      simp only [Bool.false_eq_true, if_false, if_pos (show 0 ≤ (l.length : Int) - n by omega), if_pos (show (l.length : Int) - n ≤ (l.length : Int) by omega)]
      rw [spec_copy _ (by simp; omega), spec_copy _ (by simp; omega)]
      exact Ev.now _
    · simp only [decide_eq_false hn, Bool.not_false, Bool.false_eq_true, if_false]
      exact j1
theorem impl_take (l : List Int) (n : Int) (hl : l.length ≤ 1048578) : Ev (fun k => impl_TakeNumbers.f k l n) (takeM l n) := by
  unfold impl_TakeNumbers.f takeM
  refine Ev.bind (impl_stack l) ?_
  have j1 : Ev (fun k => impl_TakeNumbers.j0 k l n true) (l, [], false) := by
    refine Ev.step (fun k => impl_TakeNumbers.j0.eq_2 _ _ _ k) ?_
    simp only [if_true, impl_clone l hl, Option.bind_some]
    exact Ev.now _
  cases h : stackB l with
  | false =>
    simp only [Bool.false_eq_true, if_false, Bool.false_and]
    exact j1
  | true =>
    have h12 := stack_len l h
    simp only [if_true, Bool.true_and, impl_in, Option.bind_some]
    by_cases hn : 0 ≤ n ∧ n ≤ (l.length : Int)
    · simp only [decide_eq_true hn, Bool.not_true, if_true]
      refine Ev.step (fun k => impl_TakeNumbers.j0.eq_2 _ _ _ k) ?_
      have e : (((l.length : Int) - n)).toNat = l.length - n.toNat := by omega
      rw [wrap_id (x := (l.length : Int) - n) (by omega) (by omega), e]
      simp only [Bool.false_eq_true, if_false, if_pos (show 0 ≤ (l.length : Int) - n by omega), if_pos (show (l.length : Int) - n ≤ (l.length : Int) by omega)]
      rw [impl_clone _ (by simp; omega), impl_clone _ (by simp; omega)]
      exact Ev.now _
    · simp only [decide_eq_false hn, Bool.not_false, Bool.false_eq_true, if_false]
      exact j1
def needM (s : ByteArray) : Int := if s.toList = ([110, 101, 103] : List UInt8) then 1 else (if s.toList = ([100, 117, 112] : List UInt8) then 1 else (if s.toList = ([112, 111, 112] : List UInt8) then 1 else 2))
def opOut (y l : List Int) (s : ByteArray) : List Int := if s.toList = ([97, 100, 100] : List UInt8) then y ++ [wrap64 (rd l 0 + rd l 1)] else (if s.toList = ([115, 117, 98] : List UInt8) then y ++ [wrap64 (rd l 0 - rd l 1)] else (if s.toList = ([109, 117, 108] : List UInt8) then y ++ [wrap64 (rd l 0 * rd l 1)] else (if s.toList = ([101, 120, 99, 104] : List UInt8) then y ++ [rd l 1, rd l 0] else (if s.toList = ([110, 101, 103] : List UInt8) then y ++ [wrap64 (-(rd l 0))] else (if s.toList = ([100, 117, 112] : List UInt8) then y ++ [rd l 0, rd l 0] else (y))))))
def opFin (l o : List Int) : List Int × Bool := if stackB o = true then (o, true) else (l, false)
def opB (s : ByteArray) : Bool := (spec_IsStackOp.f s).getD false
theorem op_some (s : ByteArray) : spec_IsStackOp.f s = some (opB s) := by
  have ht : ∃ b, spec_IsStackOp.f s = some b := by
    unfold spec_IsStackOp.f
    repeat' split
    all_goals exact ⟨_, rfl⟩
  obtain ⟨b, hb⟩ := ht
  unfold opB
  rw [hb]
  rfl
def opM (l : List Int) (s : ByteArray) : List Int × Bool := if ((takeM l (needM s)).2.2 && opB s) = true then opFin l (opOut (takeM l (needM s)).1 (takeM l (needM s)).2.1 s) else (l, false)
theorem take_lens (l : List Int) (n : Int) (h : (takeM l n).2.2 = true) : (takeM l n).1.length ≤ 12 ∧ ((takeM l n).2.1.length : Int) = n := by
  unfold takeM at h ⊢
  by_cases hc : (stackB l && decide (0 ≤ n ∧ n ≤ (l.length : Int))) = true
  · simp only [if_pos hc] at h ⊢
    rw [Bool.and_eq_true] at hc
    have h1 := stack_len l hc.1
    have h2 := of_decide_eq_true hc.2
    simp only [List.length_take, List.length_drop]
    omega
  · simp only [if_neg hc] at h
    exact absurd h (by decide)
theorem op_some' (s : ByteArray) : impl_IsStackOp.f s = some (opB s) := op_some s
theorem spec_fin (l o : List Int) (hl : l.length ≤ 1048577) (ho : o.length ≤ 14) : Ev (fun k => spec_StackOp.j3 k l o) (opFin l o) := by
  unfold opFin
  refine Ev.step (fun k => spec_StackOp.j3.eq_2 _ _ k) ?_
  refine Ev.bind (spec_stack o (show o.length ≤ 1048578 by omega)) ?_
  cases stackB o with
  | false =>
    simp only [Bool.false_eq_true, if_false, spec_copy l (show l.length ≤ 1048578 by omega), Option.bind_some]
    exact Ev.now _
  | true =>
    simp only [if_true]
    exact Ev.now _
theorem spec_out (x y l : List Int) (s : ByteArray) (hx : x.length ≤ 1048577) (hy : y.length ≤ 12) (hl : (l.length : Int) = needM s) :
    Ev (fun k => spec_StackOp.j2 k x s y l false) (opFin x (opOut y l s)) := by
  unfold opOut
  refine Ev.step (fun k => spec_StackOp.j2.eq_2 _ _ _ _ _ k) ?_
  simp only [Bool.false_eq_true, if_false, Option.bind_some, List.length_cons, List.length_nil]
  by_cases h0 : s.toList = ([97, 100, 100] : List UInt8)
  · have hn : needM s = 2 := by
      unfold needM
      rw [h0]
      decide
    simp only [if_pos h0, if_pos (show 0 < (l.length : Int) by omega), if_pos (show 1 < (l.length : Int) by omega), if_pos (show y.length < 17592186044416 by omega), if_pos (show y.length + (0 + 1 + 1) < 17592186044416 by omega)]
    exact spec_fin _ _ hx (by simp; try omega)
  simp only [if_neg h0]
  by_cases h1 : s.toList = ([115, 117, 98] : List UInt8)
  · have hn : needM s = 2 := by
      unfold needM
      rw [h1]
      decide
    simp only [if_pos h1, if_pos (show 0 < (l.length : Int) by omega), if_pos (show 1 < (l.length : Int) by omega), if_pos (show y.length < 17592186044416 by omega), if_pos (show y.length + (0 + 1 + 1) < 17592186044416 by omega)]
    exact spec_fin _ _ hx (by simp; try omega)
  simp only [if_neg h1]
  by_cases h2 : s.toList = ([109, 117, 108] : List UInt8)
  · have hn : needM s = 2 := by
      unfold needM
      rw [h2]
      decide
    simp only [if_pos h2, if_pos (show 0 < (l.length : Int) by omega), if_pos (show 1 < (l.length : Int) by omega), if_pos (show y.length < 17592186044416 by omega), if_pos (show y.length + (0 + 1 + 1) < 17592186044416 by omega)]
    exact spec_fin _ _ hx (by simp; try omega)
  simp only [if_neg h2]
  by_cases h3 : s.toList = ([101, 120, 99, 104] : List UInt8)
  · have hn : needM s = 2 := by
      unfold needM
      rw [h3]
      decide
    simp only [if_pos h3, if_pos (show 0 < (l.length : Int) by omega), if_pos (show 1 < (l.length : Int) by omega), if_pos (show y.length < 17592186044416 by omega), if_pos (show y.length + (0 + 1 + 1) < 17592186044416 by omega)]
    exact spec_fin _ _ hx (by simp; try omega)
  simp only [if_neg h3]
  by_cases h4 : s.toList = ([110, 101, 103] : List UInt8)
  · have hn : needM s = 1 := by
      unfold needM
      rw [h4]
      decide
    simp only [if_pos h4, if_pos (show 0 < (l.length : Int) by omega), if_pos (show y.length < 17592186044416 by omega), if_pos (show y.length + (0 + 1 + 1) < 17592186044416 by omega)]
    exact spec_fin _ _ hx (by simp; try omega)
  simp only [if_neg h4]
  by_cases h5 : s.toList = ([100, 117, 112] : List UInt8)
  · have hn : needM s = 1 := by
      unfold needM
      rw [h5]
      decide
    simp only [if_pos h5, if_pos (show 0 < (l.length : Int) by omega), if_pos (show y.length < 17592186044416 by omega), if_pos (show y.length + (0 + 1 + 1) < 17592186044416 by omega)]
    exact spec_fin _ _ hx (by simp; try omega)
  simp only [if_neg h5]
  exact spec_fin _ _ hx (by omega)
theorem spec_op (l : List Int) (s : ByteArray) (hl : l.length ≤ 1048577) : Ev (fun k => spec_StackOp.f k l s) (opM l s) := by
  have h1 : Ev (fun k => spec_StackOp.j1 k l s (needM s)) (opM l s) := by
    refine Ev.step (fun k => spec_StackOp.j1.eq_2 _ _ _ k) ?_
    refine Ev.bind (spec_take l _ (by omega)) ?_
    unfold opM
    have j (y m : List Int) : Ev (fun k => spec_StackOp.j2 k l s y m true) (l, false) := by
      refine Ev.step (fun k => spec_StackOp.j2.eq_2 _ _ _ _ _ k) ?_
      simp only [if_true, spec_copy l (show l.length ≤ 1048578 by omega), Option.bind_some]
      exact Ev.now _
    by_cases h : (takeM l (needM s)).2.2 = true
    · simp only [if_pos h, op_some, Option.bind_some]
      obtain ⟨h2, h3⟩ := take_lens _ _ h
      cases ho : opB s with
      | false =>
        simp only [Bool.not_false, h, Bool.and_false, Bool.false_eq_true, if_false]
        exact j _ _
      | true =>
        simp only [Bool.not_true, h, Bool.and_true, if_true]
        exact spec_out _ _ _ _ (by omega) h2 h3
    · simp only [if_neg h, eq_false_of_ne_true h, Bool.false_and, Bool.false_eq_true, if_false]
      exact j _ _
  have h0 (b : Bool) (h : (if b = true then 1 else 2) = needM s) : Ev (fun k => spec_StackOp.j0 k l s 2 b) (opM l s) := by
    refine Ev.step (fun k => spec_StackOp.j0.eq_2 _ _ _ _ k) ?_
    cases b with
    | false =>
      simp only [Bool.false_eq_true, if_false] at h ⊢
      rw [h]
      exact h1
    | true =>
      simp only [if_true] at h ⊢
      rw [h]
      exact h1
  unfold spec_StackOp.f
  by_cases a1 : s.toList = ([110, 101, 103] : List UInt8)
  · simp only [if_pos a1]
    exact h0 true (by unfold needM; rw [if_pos a1]; rfl)
  simp only [if_neg a1]
  by_cases a2 : s.toList = ([100, 117, 112] : List UInt8)
  · simp only [if_pos a2]
    exact h0 true (by unfold needM; rw [if_neg a1, if_pos a2]; rfl)
  simp only [if_neg a2]
  by_cases a3 : s.toList = ([112, 111, 112] : List UInt8)
  · rw [show (s.toList == ([112, 111, 112] : List UInt8)) = true from by rw [a3]; decide]
    exact h0 true (by unfold needM; rw [if_neg a1, if_neg a2, if_pos a3]; rfl)
  · rw [show (s.toList == ([112, 111, 112] : List UInt8)) = false from by simpa using a3]
    exact h0 false (by unfold needM; rw [if_neg a1, if_neg a2, if_neg a3]; rfl)
theorem impl_fin (l o : List Int) (hl : l.length ≤ 1048577) (ho : o.length ≤ 14) : Ev (fun k => impl_StackOp.j2 k l o) (opFin l o) := by
  unfold opFin
  refine Ev.step (fun k => impl_StackOp.j2.eq_2 _ _ k) ?_
  refine Ev.bind (impl_stack o) ?_
  cases stackB o with
  | false =>
    simp only [Bool.false_eq_true, if_false, impl_clone l (show l.length ≤ 1048578 by omega), Option.bind_some]
    exact Ev.now _
  | true =>
    simp only [if_true]
    exact Ev.now _
theorem impl_out (x y l : List Int) (s : ByteArray) (hx : x.length ≤ 1048577) (hy : y.length ≤ 12) (hl : (l.length : Int) = needM s) :
    Ev (fun k => impl_StackOp.j1 k x s y l false) (opFin x (opOut y l s)) := by
  unfold opOut
  refine Ev.step (fun k => impl_StackOp.j1.eq_2 _ _ _ _ _ k) ?_
  simp only [Bool.false_eq_true, if_false, Option.bind_some, List.length_cons, List.length_nil]
  by_cases h0 : s.toList = ([97, 100, 100] : List UInt8)
  · have hn : needM s = 2 := by
      unfold needM
      rw [h0]
      decide
    simp only [if_pos h0, if_pos (show 0 < (l.length : Int) by omega), if_pos (show 1 < (l.length : Int) by omega), if_pos (show y.length < 17592186044416 by omega), if_pos (show y.length + (0 + 1 + 1) < 17592186044416 by omega)]
    exact impl_fin _ _ hx (by simp; try omega)
  simp only [if_neg h0]
  by_cases h1 : s.toList = ([115, 117, 98] : List UInt8)
  · have hn : needM s = 2 := by
      unfold needM
      rw [h1]
      decide
    simp only [if_pos h1, if_pos (show 0 < (l.length : Int) by omega), if_pos (show 1 < (l.length : Int) by omega), if_pos (show y.length < 17592186044416 by omega), if_pos (show y.length + (0 + 1 + 1) < 17592186044416 by omega)]
    exact impl_fin _ _ hx (by simp; try omega)
  simp only [if_neg h1]
  by_cases h2 : s.toList = ([109, 117, 108] : List UInt8)
  · have hn : needM s = 2 := by
      unfold needM
      rw [h2]
      decide
    simp only [if_pos h2, if_pos (show 0 < (l.length : Int) by omega), if_pos (show 1 < (l.length : Int) by omega), if_pos (show y.length < 17592186044416 by omega), if_pos (show y.length + (0 + 1 + 1) < 17592186044416 by omega)]
    exact impl_fin _ _ hx (by simp; try omega)
  simp only [if_neg h2]
  by_cases h3 : s.toList = ([101, 120, 99, 104] : List UInt8)
  · have hn : needM s = 2 := by
      unfold needM
      rw [h3]
      decide
    simp only [if_pos h3, if_pos (show 0 < (l.length : Int) by omega), if_pos (show 1 < (l.length : Int) by omega), if_pos (show y.length < 17592186044416 by omega), if_pos (show y.length + (0 + 1 + 1) < 17592186044416 by omega)]
    exact impl_fin _ _ hx (by simp; try omega)
  simp only [if_neg h3]
  by_cases h4 : s.toList = ([110, 101, 103] : List UInt8)
  · have hn : needM s = 1 := by
      unfold needM
      rw [h4]
      decide
    simp only [if_pos h4, if_pos (show 0 < (l.length : Int) by omega), if_pos (show y.length < 17592186044416 by omega), if_pos (show y.length + (0 + 1 + 1) < 17592186044416 by omega)]
    exact impl_fin _ _ hx (by simp; try omega)
  simp only [if_neg h4]
  by_cases h5 : s.toList = ([100, 117, 112] : List UInt8)
  · have hn : needM s = 1 := by
      unfold needM
      rw [h5]
      decide
    simp only [if_pos h5, if_pos (show 0 < (l.length : Int) by omega), if_pos (show y.length < 17592186044416 by omega), if_pos (show y.length + (0 + 1 + 1) < 17592186044416 by omega)]
    exact impl_fin _ _ hx (by simp; try omega)
  simp only [if_neg h5]
  exact impl_fin _ _ hx (by omega)
theorem impl_op (l : List Int) (s : ByteArray) (hl : l.length ≤ 1048577) : Ev (fun k => impl_StackOp.f k l s) (opM l s) := by
  have h1 : Ev (fun k => impl_StackOp.j0 k l s (needM s)) (opM l s) := by
    refine Ev.step (fun k => impl_StackOp.j0.eq_2 _ _ _ k) ?_
    refine Ev.bind (impl_take l _ (by omega)) ?_
    unfold opM
    have j (y m : List Int) : Ev (fun k => impl_StackOp.j1 k l s y m true) (l, false) := by
      refine Ev.step (fun k => impl_StackOp.j1.eq_2 _ _ _ _ _ k) ?_
      simp only [if_true, impl_clone l (show l.length ≤ 1048578 by omega), Option.bind_some]
      exact Ev.now _
    by_cases h : (takeM l (needM s)).2.2 = true
    · simp only [if_pos h, op_some', Option.bind_some]
      obtain ⟨h2, h3⟩ := take_lens _ _ h
      cases ho : opB s with
      | false =>
        simp only [Bool.not_false, h, Bool.and_false, Bool.false_eq_true, if_false]
        exact j _ _
      | true =>
        simp only [Bool.not_true, h, Bool.and_true, if_true]
        exact impl_out _ _ _ _ (by omega) h2 h3
    · simp only [if_neg h, eq_false_of_ne_true h, Bool.false_and, Bool.false_eq_true, if_false]
      exact j _ _
  unfold impl_StackOp.f
  by_cases a1 : s.toList = ([110, 101, 103] : List UInt8)
  · simp only [if_pos a1]
    have : needM s = 1 := by unfold needM; rw [if_pos a1]
    rw [this] at h1
    exact h1
  simp only [if_neg a1]
  by_cases a2 : s.toList = ([100, 117, 112] : List UInt8)
  · simp only [if_pos a2]
    have : needM s = 1 := by unfold needM; rw [if_neg a1, if_pos a2]
    rw [this] at h1
    exact h1
  simp only [if_neg a2]
  by_cases a3 : s.toList = ([112, 111, 112] : List UInt8)
  · simp only [if_pos a3]
    have : needM s = 1 := by unfold needM; rw [if_neg a1, if_neg a2, if_pos a3]
    rw [this] at h1
    exact h1
  · simp only [if_neg a3]
    have : needM s = 2 := by unfold needM; rw [if_neg a1, if_neg a2, if_neg a3]
    rw [this] at h1
    exact h1
theorem op_len2 (l : List Int) (s : ByteArray) (hl : l.length ≤ 1048576) : (opM l s).1.length ≤ 1048576 := by
  unfold opM
  split
  · unfold opFin
    split
    · rename_i h
      have := stack_len _ h
      simp only
      omega
    · exact hl
  · exact hl
theorem FnExactStackOp : laws_FnExactStackOp.Pure := by
  intro l n hm hs hw hn
  by_cases hb : (l.length : Int) > 1048576
  · exact ⟨0, by simp only [laws_FnExactStackOp.f, if_pos hb]⟩
  by_cases hb2 : (n.size : Int) > 1048576
  · exact ⟨0, by simp only [laws_FnExactStackOp.f, if_neg hb, if_pos hb2]⟩
  refine Ev.rounds ?_
  have hl : l.length ≤ 1048576 := by omega
  have ho := op_len2 l n hl
  simp only [laws_FnExactStackOp.f, if_neg hb, if_neg hb2]
  refine Ev.bind (to_ints l hl) ?_
  refine Ev.bind (spec_op l n (by omega)) ?_
  refine Ev.bind (to_ints l hl) ?_
  refine Ev.bind (impl_op l n (by omega)) ?_
  refine Ev.bind (eq_ints_self _ (by omega)) ?_
  simp only [if_true, bne_self_eq_false]
  refine Ev.step (fun k => laws_FnExactStackOp.j0.eq_2 _ _ _ _ _ _ _ _ k) ?_
  simp only [Bool.false_eq_true, if_false]
  refine Ev.bind (to_ints l hl) ?_
  refine Ev.bind (eq_ints_self _ (by omega)) ?_
  simp only [if_true]
  refine Ev.bind (mark_ints 1 (by omega) l (by omega)) ?_
  simp only [if_neg (show ¬ (1 : Int) + (l.length : Int) < 0 by omega)]
  refine Ev.bind (eq_ints_self _ (by omega)) ?_
  simp only [if_true, bne_self_eq_false]
  refine Ev.step (fun k => laws_FnExactStackOp.j1.eq_2 _ _ _ _ _ _ k) ?_
  simp only [Bool.false_eq_true, if_false]
  refine Ev.bind (mark_ints 1 (by omega) _ (by omega)) ?_
  refine Ev.bind (held_ints 1 (by omega) _ (by omega)) ?_
  simp only [if_neg (show ¬ (1 : Int) + ((opM l n).1.length : Int) < 0 by omega), if_true]
  refine Ev.bind (to_ints l hl) ?_
  refine Ev.bind (impl_op l n (by omega)) ?_
  refine Ev.bind (eq_ints_self _ (by omega)) ?_
  simp only [if_true, bne_self_eq_false]
  refine Ev.step (fun k => laws_FnExactStackOp.j2.eq_2 _ _ _ k) ?_
  simp only [Bool.false_eq_true, if_false]
  refine Ev.bind (held_ints 1 (by omega) _ (by omega)) ?_
  simp only [if_neg (show ¬ (1 : Int) + ((opM l n).1.length : Int) < 0 by omega), if_true]
  exact Ev.now _

end Go.Proofs.Ytmhnnmjjebolpaa.Pure

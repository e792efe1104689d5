/- The program's TokenOk returns what the reference's returns, for all arguments. This is its pure statement, over numbers and lists, as printed from the program; the row is built on it.
   Conditions: none. -/
import Derived.Test.YtbdkcainnbccoaaPFnExactTokenOkx1
namespace Go.Proofs.Ytbdkcainnbccoaa.Pure
set_option linter.unusedSimpArgs false
set_option linter.unusedVariables false
open Go.RowKit Go.Proofs.Ytbdkcainnbccoaa.PFnExactTokenOk Go.Proofs.YtbdkcainnbccoaaW.PrintWords Go.Proofs.YtbdkcainnbccoaaW.PrintLast

theorem wrap_id {x : Int} (h0 : -9223372036854775808 ≤ x) (h1 : x ≤ 9223372036854775807) : wrap64 x = x := by
  unfold wrap64
  omega
theorem wrap_succ (i : Nat) (h : i < 4611686018427387904) : wrap64 ((i : Int) + 1) = ((i + 1 : Nat) : Int) := by
  rw [wrap_id (by omega) (by omega)]
  omega
theorem rd_lt (l : List Int) (i : Nat) (h : i < l.length) : rd l (i : Int) = l[i] := by
  unfold rd
  rw [Int.toNat_natCast, List.getD_eq_getElem?_getD, List.getElem?_eq_getElem h]
  rfl
theorem set_take {α : Type} (l x : List α) (i : Nat) (hi : i < l.length) (hx : x.length = l.length) (h : x.take i = l.take i) :
    (x.set i l[i]).take (i + 1) = l.take (i + 1) := by
  rw [List.take_succ_eq_append_getElem (by simp; omega), List.take_succ_eq_append_getElem hi, List.getElem_set_self, List.take_set_of_le (Nat.le_refl i), h]
theorem spec_in (a b c : Int) : spec_l01In.f a b c = some (decide (b ≤ a ∧ a ≤ c)) := by
  unfold spec_l01In.f
  by_cases h : b ≤ a <;> simp [h]
theorem impl_in (a b c : Int) : impl_within.f a b c = some (decide (b ≤ a ∧ a ≤ c)) := by
  unfold impl_within.f
  by_cases h : b ≤ a <;> simp [h]
def letterB (s : ByteArray) (i : Nat) : Bool := decide (97 ≤ bt s (i : Int) ∧ bt s (i : Int) ≤ 122)
def lettersB (s : ByteArray) (i : Nat) : Bool := (List.range' i (s.size - i)).all (letterB s)
def nameB (s : ByteArray) : Bool := decide (1 ≤ s.size ∧ s.size ≤ 8) && lettersB s 0
theorem letters_end (s : ByteArray) : lettersB s s.size = true := by simp [lettersB]
theorem letters_step (s : ByteArray) (i : Nat) (h : i < s.size) : lettersB s i = (letterB s i && lettersB s (i + 1)) := by
  unfold lettersB
  rw [show s.size - i = (s.size - (i + 1)) + 1 by omega, List.range'_succ, List.all_cons]
theorem spec_letters (s : ByteArray) (hs : s.size ≤ 1048577) : ∀ (d i : Nat), i + d = s.size →
    Ev (fun k => spec_IsName.l0 k s (i : Int)) (lettersB s i && decide (1 ≤ s.size ∧ s.size ≤ 8)) := by
  intro d
  induction d with
  | zero =>
    intro i hi
    refine Ev.step (fun k => spec_IsName.l0.eq_2 _ _ k) ?_
    simp only [if_neg (show ¬ (i : Int) < (s.size : Int) by omega), spec_in, Option.bind_some]
    rw [show i = s.size by omega, letters_end]
    have e : decide ((1 : Int) ≤ (s.size : Int) ∧ (s.size : Int) ≤ 8) = (true && decide (1 ≤ s.size ∧ s.size ≤ 8)) := by
      rw [Bool.true_and]
      exact decide_eq_decide.2 ⟨fun h => by omega, fun h => by omega⟩
    rw [e]
    exact Ev.now _
  | succ d ih =>
    intro i hi
    refine Ev.step (fun k => spec_IsName.l0.eq_2 _ _ k) ?_
    simp only [if_pos (show (i : Int) < (s.size : Int) by omega), if_pos (show (0 : Int) ≤ (i : Int) by omega)]
    rw [wrap_succ i (by omega), letters_step s i (by omega)]
    by_cases h1 : bt s (i : Int) < 97
    · simp only [if_pos h1]
      rw [show letterB s i = false from decide_eq_false (by omega)]
      exact Ev.now _
    · simp only [if_neg h1]
      by_cases h2 : bt s (i : Int) > 122
      · simp only [if_pos h2]
        rw [show letterB s i = false from decide_eq_false (by omega)]
        exact Ev.now _
      · simp only [if_neg h2]
        rw [show letterB s i = true from decide_eq_true (by omega), Bool.true_and]
        exact ih (i + 1) (by omega)
theorem spec_name (s : ByteArray) (hs : s.size ≤ 1048577) : Ev (fun k => spec_IsName.f k s) (nameB s) := by
  unfold spec_IsName.f nameB
  rw [Bool.and_comm]
  exact spec_letters s hs s.size 0 (by omega)
theorem impl_letters (s : ByteArray) (hs : s.size ≤ 1048577) : ∀ (d i : Nat), i + d = s.size →
    Ev (fun k => impl_IsName.l0 k s (i : Int)) (lettersB s i) := by
  intro d
  induction d with
  | zero =>
    intro i hi
    refine Ev.step (fun k => impl_IsName.l0.eq_2 _ _ k) ?_
    simp only [if_neg (show ¬ (i : Int) < (s.size : Int) by omega)]
    rw [show i = s.size by omega, letters_end]
    exact Ev.now _
  | succ d ih =>
    intro i hi
    refine Ev.step (fun k => impl_IsName.l0.eq_2 _ _ k) ?_
    simp only [if_pos (show (i : Int) < (s.size : Int) by omega), if_pos (show (0 : Int) ≤ (i : Int) by omega)]
    rw [wrap_succ i (by omega), letters_step s i (by omega)]
    by_cases h1 : bt s (i : Int) < 97
    · simp only [if_pos h1]
      rw [show letterB s i = false from decide_eq_false (by omega)]
      exact Ev.now _
    · simp only [if_neg h1]
      by_cases h2 : bt s (i : Int) > 122
      · simp only [if_pos h2]
        rw [show letterB s i = false from decide_eq_false (by omega)]
        exact Ev.now _
      · simp only [if_neg h2]
        rw [show letterB s i = true from decide_eq_true (by omega), Bool.true_and]
        exact ih (i + 1) (by omega)
theorem impl_name (s : ByteArray) (hs : s.size ≤ 1048577) : Ev (fun k => impl_IsName.f k s) (nameB s) := by
  unfold impl_IsName.f nameB
  have j (t : Bool) : Ev (fun k => impl_IsName.j0 k s t) (!t && lettersB s 0) := by
    refine Ev.step (fun k => impl_IsName.j0.eq_2 _ _ k) ?_
    cases t
    · simp only [Bool.false_eq_true, if_false, Bool.not_false, Bool.true_and]
      exact impl_letters s hs s.size 0 (by omega)
    · simp only [if_true]
      exact Ev.now _
  by_cases h : (s.size : Int) < 1
  · simp only [if_pos h]
    rw [decide_eq_false (by omega)]
    exact j true
  · simp only [if_neg h]
    have e : decide (1 ≤ s.size ∧ s.size ≤ 8) = !decide ((s.size : Int) > 8) := by
      by_cases h8 : s.size ≤ 8
      · rw [decide_eq_true (by omega), decide_eq_false (by omega)]
        rfl
      · rw [decide_eq_false (by omega), decide_eq_true (by omega)]
        rfl
    rw [e]
    exact j _
def tokenB (s : ByteArray) (n : Int) : Bool := if s.toList = ([] : List UInt8) then decide (-999 ≤ n ∧ n ≤ 999) else nameB s && (n == 0)
theorem spec_token (s : ByteArray) (n : Int) (hs : s.size ≤ 1048577) : Ev (fun k => spec_TokenOk.f k s n) (tokenB s n) := by
  unfold spec_TokenOk.f tokenB
  by_cases h : s.toList = ([] : List UInt8)
  · simp only [if_pos h, spec_in, Option.bind_some]
    exact Ev.now _
  · simp only [if_neg h]
    refine Ev.bind (spec_name s hs) ?_
    cases nameB s <;> simp <;> exact Ev.now _
theorem impl_token (s : ByteArray) (n : Int) (hs : s.size ≤ 1048577) : Ev (fun k => impl_TokenOk.f k s n) (tokenB s n) := by
  unfold impl_TokenOk.f tokenB
  by_cases h : s.toList = ([] : List UInt8)
  · simp only [if_pos h, impl_in, Option.bind_some]
    exact Ev.now _
  · simp only [if_neg h]
    refine Ev.bind (impl_name s hs) ?_
    cases nameB s <;> simp <;> exact Ev.now _
theorem sz_token (s : ByteArray) (n m : Int) (hs : s.size ≤ maxLen) (h0 : 0 ≤ m) (hm : m ≤ 1048576) :
    laws_szToken.f s n m = some (if m - s.size < 0 then -1 else m - s.size) := by
  have hs' : s.size ≤ 9223372036854775807 := hs
  unfold laws_szToken.f
  rw [wrap_id (by omega) (by omega)]
  split <;> rfl
theorem FnExactTokenOk (s : ByteArray) (n : Int) (hs : s.size ≤ maxLen) (_ : (Lit.int .i64 n).wf = true) : ∃ k, laws_FnExactTokenOk.f k s n = some true := by
  refine Ev.rounds ?_
  simp only [laws_FnExactTokenOk.f, sz_token s n 1048576 hs (by omega) (by omega), Option.bind_some, laws_toToken.f]
  by_cases h : (1048576 : Int) - s.size < 0
  · simp only [if_pos h, if_pos (show (-1 : Int) < 0 by omega)]
    exact Ev.now _
  · simp only [if_neg h]
    refine Ev.bind (spec_token s n (by omega)) ?_
    refine Ev.bind (impl_token s n (by omega)) ?_
    simp only [bne_self_eq_false, Bool.false_eq_true, if_false]
    exact Ev.now _

end Go.Proofs.Ytbdkcainnbccoaa.Pure

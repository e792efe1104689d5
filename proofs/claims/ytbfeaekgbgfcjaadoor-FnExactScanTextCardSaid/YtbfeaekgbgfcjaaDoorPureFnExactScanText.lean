/- The program's ScanText returns what the reference's returns, for all arguments. This is its pure statement, over numbers and lists, as printed from the program; the row is built on it.
   Conditions: none. -/
import Derived.Test.YtbfeaekgbgfcjaaDoorGFnExactScanTextx6
namespace Go.Proofs.YtbfeaekgbgfcjaaDoor.Pure
set_option linter.unusedSimpArgs false
set_option linter.unusedVariables false
open Go.RowKit Go.Proofs.YtbfeaekgbgfcjaaDoor.GFnExactScanText Go.Proofs.YtbfeaekgbgfcjaaDoorW.PrintWords Go.Proofs.YtbfeaekgbgfcjaaDoorW.PrintLast

theorem wrap_id {x : Int} (h0 : -9223372036854775808 ≤ x) (h1 : x ≤ 9223372036854775807) : wrap64 x = x := by
  unfold wrap64
  omega
theorem wrap_succ (i : Nat) (h : i < 4611686018427387904) : wrap64 ((i : Int) + 1) = ((i + 1 : Nat) : Int) := by
  rw [wrap_id (by omega) (by omega)]
  omega
theorem rd_lt (l : List Int) (i : Nat) (h : i < l.length) : rd l (i : Int) = l[i] := by
  unfold rd
  rw [Int.toNat_natCast, List.getD_eq_getElem?_getD, List.getElem?_eq_getElem h]
  rfl
theorem set_take {α : Type} (l x : List α) (i : Nat) (hi : i < l.length) (hx : x.length = l.length) (h : x.take i = l.take i) :
    (x.set i l[i]).take (i + 1) = l.take (i + 1) := by
  rw [List.take_succ_eq_append_getElem (by simp; omega), List.take_succ_eq_append_getElem hi, List.getElem_set_self, List.take_set_of_le (Nat.le_refl i), h]
def allFrom (p : Nat → Bool) (n i : Nat) : Bool := (List.range' i (n - i)).all p
theorem all_end (p : Nat → Bool) (n : Nat) : allFrom p n n = true := by simp [allFrom]
theorem all_step (p : Nat → Bool) (n i : Nat) (h : i < n) : allFrom p n i = (p i && allFrom p n (i + 1)) := by
  unfold allFrom
  rw [show n - i = (n - (i + 1)) + 1 by omega, List.range'_succ, List.all_cons]
theorem all_iff (p : Nat → Bool) (n i : Nat) : allFrom p n i = true ↔ ∀ j, i ≤ j → j < n → p j = true := by
  unfold allFrom
  rw [List.all_eq_true]
  constructor
  · intro h j h1 h2
    exact h j (List.mem_range'_1.2 ⟨h1, by omega⟩)
  · intro h j hj
    have := List.mem_range'_1.1 hj
    exact h j this.1 (by omega)
theorem spec_in (a b c : Int) : spec_l01In.f a b c = some (decide (b ≤ a ∧ a ≤ c)) := by
  unfold spec_l01In.f
  by_cases h : b ≤ a <;> simp [h]
def letterB (s : ByteArray) (i : Nat) : Bool := decide (97 ≤ bt s (i : Int) ∧ bt s (i : Int) ≤ 122)
def lettersB (s : ByteArray) (i : Nat) : Bool := (List.range' i (s.size - i)).all (letterB s)
def nameB (s : ByteArray) : Bool := decide (1 ≤ s.size ∧ s.size ≤ 8) && lettersB s 0
theorem letters_end (s : ByteArray) : lettersB s s.size = true := by simp [lettersB]
theorem letters_step (s : ByteArray) (i : Nat) (h : i < s.size) : lettersB s i = (letterB s i && lettersB s (i + 1)) := by
  unfold lettersB
  rw [show s.size - i = (s.size - (i + 1)) + 1 by omega, List.range'_succ, List.all_cons]
theorem spec_letters (s : ByteArray) (hs : s.size ≤ 1048577) : ∀ (d i : Nat), i + d = s.size →
    Ev (fun k => spec_IsName.l0 k s (i : Int)) (lettersB s i && decide (1 ≤ s.size ∧ s.size ≤ 8)) := by
  intro d
  induction d with
  | zero =>
    intro i hi
    refine Ev.step (fun k => spec_IsName.l0.eq_2 _ _ k) ?_
    simp only [if_neg (show ¬ (i : Int) < (s.size : Int) by omega), spec_in, Option.bind_some]
    rw [show i = s.size by omega, letters_end]
    have e : decide ((1 : Int) ≤ (s.size : Int) ∧ (s.size : Int) ≤ 8) = (true && decide (1 ≤ s.size ∧ s.size ≤ 8)) := by
      rw [Bool.true_and]
      exact decide_eq_decide.2 ⟨fun h => by omega, fun h => by omega⟩
    rw [e]
    exact Ev.now _
  | succ d ih =>
    intro i hi
    refine Ev.step (fun k => spec_IsName.l0.eq_2 _ _ k) ?_
    simp only [if_pos (show (i : Int) < (s.size : Int) by omega), if_pos (show (0 : Int) ≤ (i : Int) by omega)]
    rw [wrap_succ i (by omega), letters_step s i (by omega)]
    by_cases h1 : bt s (i : Int) < 97
    · simp only [if_pos h1]
      rw [show letterB s i = false from decide_eq_false (by omega)]
      exact Ev.now _
    · simp only [if_neg h1]
      by_cases h2 : bt s (i : Int) > 122
      · simp only [if_pos h2]
        rw [show letterB s i = false from decide_eq_false (by omega)]
        exact Ev.now _
      · simp only [if_neg h2]
        rw [show letterB s i = true from decide_eq_true (by omega), Bool.true_and]
        exact ih (i + 1) (by omega)
theorem spec_name (s : ByteArray) (hs : s.size ≤ 1048577) : Ev (fun k => spec_IsName.f k s) (nameB s) := by
  unfold spec_IsName.f nameB
  rw [Bool.and_comm]
  exact spec_letters s hs s.size 0 (by omega)
theorem impl_letters (s : ByteArray) (hs : s.size ≤ 1048577) : ∀ (d i : Nat), i + d = s.size →
    Ev (fun k => impl_IsName.l0 k s (i : Int)) (lettersB s i) := by
  intro d
  induction d with
  | zero =>
    intro i hi
    refine Ev.step (fun k => impl_IsName.l0.eq_2 _ _ k) ?_
    simp only [if_neg (show ¬ (i : Int) < (s.size : Int) by omega)]
    rw [show i = s.size by omega, letters_end]
    exact Ev.now _
  | succ d ih =>
    intro i hi
    refine Ev.step (fun k => impl_IsName.l0.eq_2 _ _ k) ?_
    simp only [if_pos (show (i : Int) < (s.size : Int) by omega), if_pos (show (0 : Int) ≤ (i : Int) by omega)]
    rw [wrap_succ i (by omega), letters_step s i (by omega)]
    by_cases h1 : bt s (i : Int) < 97
    · simp only [if_pos h1]
      rw [show letterB s i = false from decide_eq_false (by omega)]
      exact Ev.now _
    · simp only [if_neg h1]
      by_cases h2 : bt s (i : Int) > 122
      · simp only [if_pos h2]
        rw [show letterB s i = false from decide_eq_false (by omega)]
        exact Ev.now _
      · simp only [if_neg h2]
        rw [show letterB s i = true from decide_eq_true (by omega), Bool.true_and]
        exact ih (i + 1) (by omega)
theorem impl_name (s : ByteArray) (hs : s.size ≤ 1048577) : Ev (fun k => impl_IsName.f k s) (nameB s) := by
  unfold impl_IsName.f nameB
  have j (t : Bool) : Ev (fun k => impl_IsName.j0 k s t) (!t && lettersB s 0) := by
    refine Ev.step (fun k => impl_IsName.j0.eq_2 _ _ k) ?_
    cases t
    · simp only [Bool.false_eq_true, if_false, Bool.not_false, Bool.true_and]
      exact impl_letters s hs s.size 0 (by omega)
    · simp only [if_true]
      exact Ev.now _
  by_cases h : (s.size : Int) < 1
  · simp only [if_pos h]
    rw [decide_eq_false (by omega)]
    exact j true
  · simp only [if_neg h]
    have e : decide (1 ≤ s.size ∧ s.size ≤ 8) = !decide ((s.size : Int) > 8) := by
      by_cases h8 : s.size ≤ 8
      · rw [decide_eq_true (by omega), decide_eq_false (by omega)]
        rfl
      · rw [decide_eq_false (by omega), decide_eq_true (by omega)]
        rfl
    rw [e]
    exact j _
theorem rdiToken_lt (l : List S43) (i : Nat) (h : i < l.length) : rd_T43 l (i : Int) = l[i] := by
  unfold rd_T43
  rw [Int.toNat_natCast, List.getD_eq_getElem?_getD, List.getElem?_eq_getElem h]
  rfl
theorem eqToken_loop (l : List S43) (hl : l.length ≤ 1048577) : ∀ (d i : Nat), i + d = l.length →
    Ev (fun k => laws_eqTokenS.l0 k l l (i : Int)) true := by
  intro d
  induction d with
  | zero =>
    intro i hi
    refine Ev.step (fun k => laws_eqTokenS.l0.eq_2 _ _ _ k) ?_
    simp only [if_neg (show ¬ (i : Int) < (l.length : Int) by omega)]
    exact Ev.now _
  | succ d ih =>
    intro i hi
    refine Ev.step (fun k => laws_eqTokenS.l0.eq_2 _ _ _ k) ?_
    simp only [if_pos (show (i : Int) < (l.length : Int) by omega), if_pos (show (0 : Int) ≤ (i : Int) by omega), laws_eqToken.f, if_true, Option.bind_some]
    rw [wrap_succ i (by omega)]
    exact ih (i + 1) (by omega)
theorem eqTokens (l : List S43) (hl : l.length ≤ 1048577) : Ev (fun k => laws_eqTokenS.f k l l) true := by
  unfold laws_eqTokenS.f
  simp only [if_true]
  exact eqToken_loop l hl l.length 0 (by omega)
theorem str_app (a b : List UInt8) : (⟨a.toArray⟩ : ByteArray) ++ ⟨b.toArray⟩ = ⟨(a ++ b).toArray⟩ := by
  apply ByteArray.ext
  rw [ByteArray.data_append]
  simp
theorem nDigits_le : ∀ (k m : Nat), m < 10 ^ (k + 1) → Lib.nDigits m ≤ k + 1
  | 0, m, h => by rw [Lib.nDigits, dif_pos (by omega)]; omega
  | k + 1, m, h => by
    by_cases h10 : m < 10
    · rw [Lib.nDigits, dif_pos h10]; omega
    · rw [Lib.nDigits, dif_neg h10]
      have := nDigits_le k (m / 10) (by rw [Nat.pow_succ] at h; omega)
      omega
theorem bt_get (a : ByteArray) (i : Nat) (h : i < a.size) : bt a (i : Int) = ((a.data.getD i 0).toNat : Int) := by
  have e : a.data.getD i 0 = a[i] := by
    rw [Array.getD_eq_getD_getElem?, Array.getElem?_eq_getElem (show i < a.data.size from h)]
    rfl
  rw [e]
  unfold bt
  rw [dif_pos (show (i : Int).toNat < a.size by omega)]
  rfl
theorem drop_bytes (a : ByteArray) (i : Nat) (h : i < a.size) : a.data.toList.drop i = a.data.getD i 0 :: a.data.toList.drop (i + 1) := by
  have hl : i < a.data.toList.length := by rw [Array.length_toList]; exact h
  rw [List.drop_eq_getElem_cons hl]
  congr 1
  rw [Array.getD_eq_getD_getElem?, Array.getElem?_eq_getElem (show i < a.data.size from h), Array.getElem_toList]
  rfl
theorem size_toList (a : ByteArray) : a.data.toList.length = a.size := by rw [Array.length_toList]; rfl
theorem size_mk (l : List UInt8) : (⟨l.toArray⟩ : ByteArray).size = l.length := by simp [ByteArray.size]
theorem toList_mk (l : List UInt8) : (⟨l.toArray⟩ : ByteArray).toList = l := by rw [Lib.toList_data]
/-- The text of a mark. -/
def mtx (n : Nat) : ByteArray := ⟨(109 :: Lib.decDigits n).toArray⟩
theorem str_digitM : ∀ n : Nat, n < 10 → strOfNums [(wrap64 (48 + (n : Int))) % 256] = ⟨[UInt8.ofNat (48 + n)].toArray⟩ := by
  intro n hn
  rw [show (wrap64 (48 + (n : Int))) % 256 = ((48 + n : Nat) : Int) by unfold wrap64; omega]
  show (⟨#[UInt8.ofNat ((48 + n : Nat) : Int).toNat]⟩ : ByteArray) = _
  rw [Int.toNat_natCast]
theorem mark_loop : ∀ (d m : Nat) (l : List UInt8), m ≤ d → m ≠ 0 → m ≤ 4611686018427387904 → l.length + Lib.nDigits m ≤ 100 →
    Ev (fun k => laws_markText.l0 k (m : Int) ⟨l.toArray⟩) ⟨(109 :: (Lib.decDigits m ++ l)).toArray⟩ := by
  intro d
  induction d with
  | zero => intro m l h1 h2; omega
  | succ d ih =>
    intro m l hmd hm0 hm hl
    have hm10 : m % 10 < 10 := Nat.mod_lt _ (by omega)
    have hsz : (⟨l.toArray⟩ : ByteArray).size = l.length := size_mk l
    have hsz1 : (⟨[UInt8.ofNat (48 + m % 10)].toArray⟩ : ByteArray).size = 1 := rfl
    have t1 : Int.tmod (m : Int) 10 = ((m % 10 : Nat) : Int) := rfl
    have t2 : Int.tdiv (m : Int) 10 = ((m / 10 : Nat) : Int) := rfl
    refine Ev.step (fun k => laws_markText.l0.eq_2 _ _ k) ?_
    simp only [if_pos (show (m : Int) > 0 by omega), Option.bind_some, t1, t2, str_digitM _ hm10, hsz, hsz1, if_pos (show 1 + l.length ≤ 9223372036854775807 by omega)]
    rw [wrap_id (x := ((m / 10 : Nat) : Int)) (by omega) (by omega), str_app]
    by_cases h10 : m < 10
    · rw [show m / 10 = 0 by omega]
      refine Ev.step (fun k => laws_markText.l0.eq_2 _ _ k) ?_
      have hs2 : (⟨([UInt8.ofNat (48 + m % 10)] ++ l).toArray⟩ : ByteArray).size = l.length + 1 := by rw [size_mk]; simp
      simp only [if_neg (show ¬ ((0 : Nat) : Int) > 0 by omega), hs2, if_pos (show 1 + (l.length + 1) ≤ 9223372036854775807 by omega)]
      have ed : Lib.decDigits m = [UInt8.ofNat (48 + m % 10)] := by rw [Lib.decDigits, dif_pos h10, Nat.mod_eq_of_lt h10]
      rw [ed, show (⟨#[109]⟩ : ByteArray) = ⟨[(109 : UInt8)].toArray⟩ from rfl, str_app]
      exact Ev.now _
    · have ed : Lib.decDigits m = Lib.decDigits (m / 10) ++ [UInt8.ofNat (48 + m % 10)] := by rw [Lib.decDigits, dif_neg h10]
      have en : Lib.nDigits m = Lib.nDigits (m / 10) + 1 := by rw [Lib.nDigits, dif_neg h10]
      rw [ed, List.append_assoc]
      exact ih (m / 10) _ (by omega) (by omega) (by omega) (by simp only [List.length_append, List.length_cons, List.length_nil]; omega)
theorem mark_text (m : Nat) (h0 : m ≠ 0) (h : m ≤ 4611686018427387904) : Ev (fun k => laws_markText.f k (m : Int)) (mtx m) := by
  unfold laws_markText.f
  simp only [if_neg (show ¬ (m : Int) ≤ 0 by omega)]
  have := nDigits_le 19 m (by have : (10 : Nat) ^ (19 + 1) = 100000000000000000000 := by decide
                              omega)
  have hb := mark_loop m m [] (Nat.le_refl _) h0 h (by simp only [List.length_nil]; omega)
  rw [List.append_nil] at hb
  exact hb
def markTL (n : Nat) : List S43 := (List.range n).map fun j : Nat => ⟨mtx (1 + 2 * j), 1 + 2 * (j : Int) + 1⟩
theorem markTL_len (n : Nat) : (markTL n).length = n := by simp [markTL]
theorem markTL_at (n i : Nat) (h : i < n) : (markTL n)[i]'(by rw [markTL_len]; exact h) = ⟨mtx (1 + 2 * i), 1 + 2 * (i : Int) + 1⟩ := by simp [markTL]
theorem mark_toks_loop (n : Nat) (hn : n ≤ 1048576) : ∀ (d i : Nat) (x : List S43), i + d = n → x.length = n → x.take i = (markTL n).take i →
    Ev (fun k => laws_markTokenS.l0 k x ((1 + 2 * i : Nat) : Int) (i : Int)) (((1 + 2 * n : Nat) : Int), markTL n) := by
  intro d
  induction d with
  | zero =>
    intro i x hi hx ht
    refine Ev.step (fun k => laws_markTokenS.l0.eq_2 _ _ _ k) ?_
    simp only [if_neg (show ¬ (i : Int) < (x.length : Int) by omega)]
    rw [List.take_of_length_le (by omega), List.take_of_length_le (l := markTL n) (by rw [markTL_len]; omega)] at ht
    subst ht
    rw [show i = n by omega]
    exact Ev.now _
  | succ d ih =>
    intro i x hi hx ht
    refine Ev.step (fun k => laws_markTokenS.l0.eq_2 _ _ _ k) ?_
    simp only [if_pos (show (i : Int) < (x.length : Int) by omega)]
    refine Ev.bind (mark_text (1 + 2 * i) (by omega) (by omega)) ?_
    simp only [if_pos (show (0 : Int) ≤ (i : Int) by omega), Int.toNat_natCast, Option.bind_some, wrap_succ i (by omega), wrap_succ (1 + 2 * i) (by omega), wrap_succ (1 + 2 * i + 1) (by omega)]
    rw [rdiToken_lt (x.set i _) i (by simp; omega), List.getElem_set_self, List.set_set]
    refine ih (i + 1) (x.set i ⟨mtx (1 + 2 * i), ((1 + 2 * i + 1 : Nat) : Int)⟩) (by omega) (by simp; omega) ?_
    have h2 := set_take (markTL n) x i (by rw [markTL_len]; omega) (by rw [markTL_len]; omega) ht
    rw [markTL_at n i (by omega)] at h2
    rw [show ((1 + 2 * i + 1 : Nat) : Int) = 1 + 2 * (i : Int) + 1 by omega]
    exact h2
theorem mark_toks (l : List S43) (hl : l.length ≤ 1048576) : Ev (fun k => laws_markTokenS.f k l 1) (((1 + 2 * l.length : Nat) : Int), markTL l.length) := by
  unfold laws_markTokenS.f
  exact mark_toks_loop l.length hl l.length 0 l (by omega) rfl (by simp)
theorem held_toks_loop (n : Nat) (hn : n ≤ 1048576) : ∀ (d i : Nat), i + d = n → Ev (fun k => laws_heldTokenS.l0 k (markTL n) ((1 + 2 * i : Nat) : Int) (i : Int)) ((1 + 2 * n : Nat) : Int) := by
  intro d
  induction d with
  | zero =>
    intro i hi
    refine Ev.step (fun k => laws_heldTokenS.l0.eq_2 _ _ _ k) ?_
    simp only [if_neg (show ¬ (i : Int) < ((markTL n).length : Int) by rw [markTL_len]; omega)]
    rw [show i = n by omega]
    exact Ev.now _
  | succ d ih =>
    intro i hi
    have h3 : rd_T43 (markTL n) (i : Int) = ⟨mtx (1 + 2 * i), 1 + 2 * (i : Int) + 1⟩ := by
      rw [rdiToken_lt _ i (by rw [markTL_len]; omega)]
      exact markTL_at n i (by omega)
    refine Ev.step (fun k => laws_heldTokenS.l0.eq_2 _ _ _ k) ?_
    simp only [if_pos (show (i : Int) < ((markTL n).length : Int) by rw [markTL_len]; omega), if_pos (show (0 : Int) ≤ (i : Int) by omega)]
    refine Ev.bind (mark_text (1 + 2 * i) (by omega) (by omega)) ?_
    simp only [h3, if_true, wrap_succ i (by omega), wrap_succ (1 + 2 * i) (by omega), wrap_succ (1 + 2 * i + 1) (by omega)]
    simp only [if_pos (show 1 + 2 * (i : Int) + 1 = ((1 + 2 * i + 1 : Nat) : Int) by omega)]
    exact ih (i + 1) (by omega)
theorem held_toks (n : Nat) (hn : n ≤ 1048576) : Ev (fun k => laws_heldTokenS.f k (markTL n) 1) ((1 + 2 * n : Nat) : Int) := by
  unfold laws_heldTokenS.f
  exact held_toks_loop n hn n 0 (by omega)
/-- The number that a row of digits goes on to denote. -/
def digs : List UInt8 → Nat → Option Nat
  | [], n => some n
  | u :: r, n => if 48 ≤ u.toNat ∧ u.toNat ≤ 57 then digs r (10 * n + (u.toNat - 48)) else none
def fin (l : List UInt8) : Option Nat → Int × Bool
  | none => (0, false)
  | some n => if n > 1000000000 then (0, false) else if Lib.decDigits n = l then ((n : Int), true) else (0, false)
/-- What ParseUint answers. -/
def parM (l : List UInt8) : Int × Bool := if l.length > 10 then (0, false) else fin l (digs l 0)
theorem dec_ne (n : Nat) : Lib.decDigits n ≠ [] := by
  rw [Lib.decDigits]
  split <;> simp
theorem impl_parse_loop (a : ByteArray) (ha : a.size ≤ 10) : ∀ (d i n : Nat), i + d = a.size → n < 10 ^ i →
    Ev (fun k => impl_ParseUint.l0 k a (n : Int) (i : Int)) (fin a.data.toList (digs (a.data.toList.drop i) n)) := by
  intro d
  induction d with
  | zero =>
    intro i n hi hn
    have hp : 10 ^ i ≤ 10 ^ 10 := Nat.pow_le_pow_right (by omega) (by omega)
    have hq : (10 : Nat) ^ 10 = 10000000000 := by decide
    refine Ev.step (fun k => impl_ParseUint.l0.eq_2 _ _ _ k) ?_
    simp only [if_neg (show ¬ (i : Int) < (a.size : Int) by omega)]
    rw [List.drop_of_length_le (by rw [size_toList]; omega), digs]
    unfold fin
    by_cases hb : (n : Int) > 1000000000
    · simp only [if_pos hb, if_pos (show n > 1000000000 by omega)]
      exact Ev.now _
    · simp only [if_neg hb, if_neg (show ¬ n > 1000000000 by omega)]
      unfold impl_FormatInt.f
      simp only [if_pos (show -9223372036854775808 ≤ (n : Int) ∧ (n : Int) ≤ 9223372036854775807 by omega), Option.bind_some]
      rw [Lib.itoa_nonneg, toList_mk, Lib.toList_data]
      split <;> exact Ev.now _
  | succ d ih =>
    intro i n hi hn
    have hp : 10 ^ i ≤ 10 ^ 10 := Nat.pow_le_pow_right (by omega) (by omega)
    have hq : (10 : Nat) ^ 10 = 10000000000 := by decide
    have hu : (a.data.getD i 0).toNat < 256 := (a.data.getD i 0).toNat_lt
    refine Ev.step (fun k => impl_ParseUint.l0.eq_2 _ _ _ k) ?_
    simp only [if_pos (show (i : Int) < (a.size : Int) by omega), if_pos (show (0 : Int) ≤ (i : Int) by omega), bt_get a i (by omega)]
    rw [drop_bytes a i (by omega), digs]
    generalize (a.data.getD i 0).toNat = u at hu
    by_cases h1 : (u : Int) < 48
    · simp only [if_pos h1]
      rw [if_neg (by omega)]
      exact Ev.now _
    simp only [if_neg h1]
    by_cases h2 : (u : Int) > 57
    · simp only [if_pos h2]
      rw [if_neg (by omega)]
      exact Ev.now _
    simp only [if_neg h2]
    rw [if_pos (by omega)]
    have e : wrap64 (wrap64 ((n : Int) * 10) + ((u : Int) - 48) % 256) = ((10 * n + (u - 48) : Nat) : Int) := by
      rw [wrap_id (x := (n : Int) * 10) (by omega) (by omega), wrap_id (by omega) (by omega)]
      omega
    rw [e, wrap_succ i (by omega)]
    exact ih (i + 1) _ (by omega) (by rw [Nat.pow_succ]; omega)
theorem impl_parse (a : ByteArray) : Ev (fun k => impl_ParseUint.f k a) (parM a.data.toList) := by
  unfold impl_ParseUint.f
  by_cases h0 : (a.size : Int) = 0
  · simp only [if_pos h0]
    have hl : a.data.toList = [] := List.length_eq_zero_iff.1 (by rw [size_toList]; omega)
    have e : parM a.data.toList = (0, false) := by
      rw [hl]
      unfold parM fin
      rw [if_neg (by simp)]
      simp only [digs]
      rw [if_neg (by omega), if_neg (dec_ne 0)]
    rw [e]
    refine Ev.step (fun k => impl_ParseUint.j0.eq_2 _ _ k) ?_
    simp only [if_true]
    exact Ev.now _
  · simp only [if_neg h0]
    refine Ev.step (fun k => impl_ParseUint.j0.eq_2 _ _ k) ?_
    unfold parM
    rw [size_toList]
    by_cases h : (a.size : Int) > 10
    · simp only [decide_eq_true h, if_true, if_pos (show a.size > 10 by omega)]
      exact Ev.now _
    · simp only [decide_eq_false h, Bool.false_eq_true, if_false, if_neg (show ¬ a.size > 10 by omega)]
      exact impl_parse_loop a (by omega) a.size 0 0 (by omega) (by decide)
/-- The pieces between spaces, 'cur' the begun one. -/
def pc : List UInt8 → List UInt8 → List (List UInt8)
  | [], cur => [cur]
  | u :: r, cur => if u = 32 then cur :: pc r [] else pc r (cur ++ [u])
theorem pc_miss : ∀ (l cur : List UInt8), Lib.indexByte l 32 = -1 → pc l cur = [cur ++ l]
  | [], cur, _ => by simp [pc]
  | u :: r, cur, h => by
    unfold Lib.indexByte at h
    by_cases hu : u = 32
    · subst hu
      simp at h
    · have hb : (u == 32) = false := beq_eq_false_iff_ne.2 hu
      rw [hb] at h
      simp only [Bool.false_eq_true, if_false] at h
      have hr : Lib.indexByte r 32 = -1 := by
        by_cases h1 : Lib.indexByte r 32 = -1
        · exact h1
        · have h2 : (Lib.indexByte r 32 == -1) = false := beq_eq_false_iff_ne.2 h1
          rw [h2] at h
          simp only [Bool.false_eq_true, if_false] at h
          have := Lib.indexByte_ge r 32
          omega
      rw [pc, if_neg hu, pc_miss r _ hr]
      simp
theorem pc_hit : ∀ (l cur : List UInt8) (i : Nat), Lib.indexByte l 32 = (i : Int) → pc l cur = (cur ++ l.take i) :: pc (l.drop (i + 1)) []
  | [], cur, i, h => by
    unfold Lib.indexByte at h
    omega
  | u :: r, cur, i, h => by
    unfold Lib.indexByte at h
    by_cases hu : u = 32
    · subst hu
      simp only [beq_self_eq_true, if_true] at h
      obtain rfl : i = 0 := by omega
      simp [pc]
    · have hb : (u == 32) = false := beq_eq_false_iff_ne.2 hu
      rw [hb] at h
      simp only [Bool.false_eq_true, if_false] at h
      by_cases h1 : Lib.indexByte r 32 = -1
      · have h2 : (Lib.indexByte r 32 == -1) = true := beq_iff_eq.2 h1
        rw [h2] at h
        simp only [if_true] at h
        omega
      · have h2 : (Lib.indexByte r 32 == -1) = false := beq_eq_false_iff_ne.2 h1
        rw [h2] at h
        simp only [Bool.false_eq_true, if_false] at h
        have hg := Lib.indexByte_ge r 32
        obtain ⟨j, rfl⟩ : ∃ j, i = j + 1 := ⟨i - 1, by omega⟩
        rw [pc, if_neg hu, pc_hit r _ j (by omega)]
        simp
theorem split_pc : ∀ (d : Nat) (l : List UInt8), l.length ≤ d → Lib.splitK [32] 0 (Lib.count l [32]) l = pc l [] := by
  intro d
  induction d with
  | zero =>
    intro l hl
    have : l = [] := List.length_eq_zero_iff.1 (by omega)
    subst this
    rfl
  | succ d ih =>
    intro l hl
    have hg := Lib.indexByte_ge l 32
    by_cases h : Lib.indexByte l 32 = -1
    · rw [Lib.count_miss (by rw [Lib.index_one]; exact h), pc_miss l [] h]
      rfl
    · obtain ⟨i, hi⟩ : ∃ i : Nat, Lib.indexByte l 32 = i := ⟨(Lib.indexByte l 32).toNat, by omega⟩
      have hx : Lib.index l [32] = i := by rw [Lib.index_one]; exact hi
      have hroom := Lib.index_room l [32] (by rw [hx]; omega)
      rw [hx] at hroom
      have e : ((i : Int) == -1) = false := by rw [beq_eq_false_iff_ne]; omega
      rw [Lib.count_hit (by simp) hx, Nat.add_comm 1, Lib.splitK, hx, e]
      simp only [Bool.false_eq_true, if_false, Int.toNat_natCast, Nat.add_zero, List.length_cons, List.length_nil, Nat.zero_add] at hroom ⊢
      rw [ih _ (by rw [List.length_drop]; omega), pc_hit l [] i hi]
      simp
def mkB (l : List UInt8) : ByteArray := ⟨l.toArray⟩
theorem mkB_data (a : ByteArray) : mkB a.data.toList = a := rfl
theorem split_mk (a : ByteArray) : Lib.splitB ⟨#[32]⟩ 0 (Lib.countB a ⟨#[32]⟩) a = (pc a.data.toList []).map mkB := by
  have h := Lib.splitB_data ⟨#[32]⟩ 0 (Lib.countB a ⟨#[32]⟩) a
  have h2 := split_pc a.data.toList.length a.data.toList (Nat.le_refl _)
  rw [← h2]
  have h3 : Lib.splitK (⟨#[32]⟩ : ByteArray).data.toList 0 (Lib.countB a ⟨#[32]⟩) a.data.toList = Lib.splitK [32] 0 (Lib.count a.data.toList [32]) a.data.toList := rfl
  rw [← h3, ← h, List.map_map]
  exact ((List.map_congr_left fun x _ => mkB_data x).trans (List.map_id _)).symm
/-- The pieces that are not empty. -/
def flds (l cur : List UInt8) : List (List UInt8) := (pc l cur).filter fun p => !p.isEmpty
def okB (l : List UInt8) : Bool := l.all fun u => decide (32 ≤ u.toNat ∧ u.toNat ≤ 126)
def fin2 (F : List ByteArray) : List ByteArray × Bool := if F.length > 24 then ([], false) else (F, true)
/-- What SplitFields answers. -/
def splM (l : List UInt8) : List ByteArray × Bool := if l.length > 600 then ([], false) else if okB l = true then fin2 ((flds l []).map mkB) else ([], false)
theorem flds_nil (cur : List UInt8) : flds [] cur = if cur = [] then [] else [cur] := by
  unfold flds pc
  cases cur <;> simp
theorem flds_sp (r cur : List UInt8) : flds (32 :: r) cur = (if cur = [] then [] else [cur]) ++ flds r [] := by
  unfold flds
  rw [pc, if_pos rfl]
  cases cur <;> simp
theorem flds_by (u : UInt8) (r cur : List UInt8) (h : u ≠ 32) : flds (u :: r) cur = flds r (cur ++ [u]) := by
  unfold flds
  rw [pc, if_neg h]
theorem pc_len : ∀ (l cur : List UInt8), (pc l cur).length ≤ l.length + 1
  | [], cur => by simp [pc]
  | u :: r, cur => by
    rw [pc]
    split
    · have := pc_len r []
      simp only [List.length_cons]; omega
    · have := pc_len r (cur ++ [u])
      simp only [List.length_cons]; omega
theorem flds_len (l cur : List UInt8) : (flds l cur).length ≤ l.length + 1 := Nat.le_trans (List.length_filter_le _ _) (pc_len l cur)
theorem mkB_eq_nil (l : List UInt8) : (mkB l).toList = [] ↔ l = [] := by
  rw [Lib.toList_data]
  exact Iff.rfl
theorem splM_len (l : List UInt8) : (splM l).1.length ≤ 24 := by
  unfold splM fin2
  split
  · simp
  · split
    · split
      · simp
      · show ((flds l []).map mkB).length ≤ 24
        omega
    · simp
theorem rdOf_lt (l : List ByteArray) (i : Nat) (h : i < l.length) : rdOf ByteArray.empty l (i : Int) = l[i] := by
  unfold rdOf
  rw [Int.toNat_natCast, List.getD_eq_getElem?_getD, List.getElem?_eq_getElem h]
  rfl
theorem impl_spl1 (P : List (List UInt8)) (hP : P.length ≤ 1000) : ∀ (d i : Nat) (out : List ByteArray), i + d = P.length → out.length ≤ i →
    Ev (fun k => impl_SplitFields.l1 k out (P.map mkB) (P.length : Int) (i : Int)) (fin2 (out ++ ((P.drop i).filter fun p => !p.isEmpty).map mkB)) := by
  intro d
  induction d with
  | zero =>
    intro i out hi ho
    refine Ev.step (fun k => impl_SplitFields.l1.eq_2 _ _ _ _ k) ?_
    simp only [if_neg (show ¬ (i : Int) < (P.length : Int) by omega)]
    rw [List.drop_of_length_le (by omega)]
    simp only [List.filter_nil, List.map_nil, List.append_nil]
    unfold fin2
    by_cases h : (out.length : Int) > 24
    · simp only [if_pos h, if_pos (show out.length > 24 by omega)]
      exact Ev.now _
    · simp only [if_neg h, if_neg (show ¬ out.length > 24 by omega)]
      exact Ev.now _
  | succ d ih =>
    intro i out hi ho
    have hl : i < P.length := by omega
    have hm : i < (P.map mkB).length := by simpa using hl
    refine Ev.step (fun k => impl_SplitFields.l1.eq_2 _ _ _ _ k) ?_
    rw [List.drop_eq_getElem_cons hl]
    simp only [if_pos (show (i : Int) < (P.length : Int) by omega), if_pos (show (0 : Int) ≤ (i : Int) by omega), if_pos (show (i : Int) < ((P.map mkB).length : Int) by simp; omega), rdOf_lt _ i hm, List.getElem_map, wrap_succ i (by omega)]
    by_cases he : P[i] = []
    · simp only [if_pos ((mkB_eq_nil _).2 he)]
      have h := ih (i + 1) out (by omega) (by omega)
      rw [List.filter_cons, he]
      exact h
    · simp only [if_neg (fun x => he ((mkB_eq_nil _).1 x)), if_pos (show out.length < 8796093022208 by omega)]
      have h := ih (i + 1) (out ++ [mkB P[i]]) (by omega) (by simp; omega)
      have hb : (!(P[i]).isEmpty) = true := by
        cases hp : P[i] with
        | nil => exact absurd hp he
        | cons a b => rfl
      rw [List.filter_cons, if_pos hb, List.map_cons]
      rw [List.append_assoc] at h
      exact h
theorem impl_spl0 (a : ByteArray) (ha : a.size ≤ 600) : ∀ (d i : Nat), i + d = a.size →
    Ev (fun k => impl_SplitFields.l0 k a (i : Int)) (if okB (a.data.toList.drop i) = true then fin2 ((flds a.data.toList []).map mkB) else ([], false)) := by
  intro d
  induction d with
  | zero =>
    intro i hi
    refine Ev.step (fun k => impl_SplitFields.l0.eq_2 _ _ k) ?_
    simp only [if_neg (show ¬ (i : Int) < (a.size : Int) by omega)]
    rw [List.drop_of_length_le (by rw [size_toList]; omega)]
    rw [if_pos (show okB [] = true from rfl)]
    unfold strings_Split.f
    have h1 : (⟨#[32]⟩ : ByteArray).size = 1 := rfl
    rw [if_pos ⟨by omega, by omega⟩, split_mk]
    have hl := pc_len a.data.toList []
    rw [size_toList] at hl
    simp only [Option.bind_some, List.length_map]
    exact impl_spl1 (pc a.data.toList []) (by omega) _ 0 [] (Nat.zero_add _) (Nat.le_refl _)
  | succ d ih =>
    intro i hi
    have hu : (a.data.getD i 0).toNat < 256 := (a.data.getD i 0).toNat_lt
    refine Ev.step (fun k => impl_SplitFields.l0.eq_2 _ _ k) ?_
    simp only [if_pos (show (i : Int) < (a.size : Int) by omega), if_pos (show (0 : Int) ≤ (i : Int) by omega), bt_get a i (by omega), wrap_succ i (by omega)]
    rw [drop_bytes a i (by omega)]
    have ho : okB (a.data.getD i 0 :: a.data.toList.drop (i + 1)) = (decide (32 ≤ (a.data.getD i 0).toNat ∧ (a.data.getD i 0).toNat ≤ 126) && okB (a.data.toList.drop (i + 1))) := rfl
    rw [ho]
    generalize (a.data.getD i 0).toNat = u at hu
    by_cases h1 : (u : Int) < 32
    · simp only [if_pos h1]
      rw [decide_eq_false (by omega), Bool.false_and]
      exact Ev.now _
    simp only [if_neg h1]
    by_cases h2 : (u : Int) > 126
    · simp only [if_pos h2]
      rw [decide_eq_false (by omega), Bool.false_and]
      exact Ev.now _
    simp only [if_neg h2]
    rw [decide_eq_true (by omega), Bool.true_and]
    exact ih (i + 1) (by omega)
theorem impl_split (a : ByteArray) : Ev (fun k => impl_SplitFields.f k a) (splM a.data.toList) := by
  unfold impl_SplitFields.f splM
  rw [size_toList]
  by_cases h : (a.size : Int) > 600
  · simp only [if_pos h, if_pos (show a.size > 600 by omega)]
    exact Ev.now _
  · simp only [if_neg h, if_neg (show ¬ a.size > 600 by omega)]
    exact impl_spl0 a (by omega) a.size 0 (by omega)
theorem par_cases (l : List UInt8) : parM l = (0, false) ∨ ∃ n : Nat, n ≤ 1000000000 ∧ l = Lib.decDigits n ∧ parM l = ((n : Int), true) := by
  unfold parM
  split
  · exact Or.inl rfl
  · cases h : digs l 0 with
    | none => exact Or.inl rfl
    | some n =>
      unfold fin
      simp only
      by_cases h1 : n > 1000000000
      · rw [if_pos h1]
        exact Or.inl rfl
      · rw [if_neg h1]
        by_cases h2 : Lib.decDigits n = l
        · rw [if_pos h2]
          exact Or.inr ⟨n, by omega, h2.symm, rfl⟩
        · rw [if_neg h2]
          exact Or.inl rfl
theorem par_bad (u : UInt8) (r : List UInt8) (h : ¬ (48 ≤ u.toNat ∧ u.toNat ≤ 57)) : parM (u :: r) = (0, false) := by
  unfold parM
  split
  · rfl
  · rw [digs, if_neg h]
    rfl
/-- A field's token: a name, or a number in its own spelling. -/
def numM (f : ByteArray) : Int × Bool := if f.size > 1 ∧ bt f 0 = 45 then (-(parM (f.extract 1 f.size).data.toList).1, (parM (f.extract 1 f.size).data.toList).2 && decide (1 ≤ (parM (f.extract 1 f.size).data.toList).1 ∧ (parM (f.extract 1 f.size).data.toList).1 ≤ 999)) else ((parM f.data.toList).1, (parM f.data.toList).2 && decide ((parM f.data.toList).1 ≤ 999))
def tokM (f : ByteArray) : Option S43 := if (numM f).2 = true then some ⟨⟨#[]⟩, (numM f).1⟩ else if nameB f = true then some ⟨f, 0⟩ else none
def scanL : List ByteArray → Option (List S43)
  | [] => some []
  | f :: r => (tokM f).bind fun t => (scanL r).map fun ts => t :: ts
def fin3 (out : List S43) : Option (List S43) → List S43 × Bool
  | none => ([], false)
  | some ts => (out ++ ts, true)
def scanM (a : ByteArray) : List S43 × Bool := if (splM a.data.toList).2 = true then fin3 [] (scanL (splM a.data.toList).1) else ([], false)
theorem fin3_step (out : List S43) (f : ByteArray) (r : List ByteArray) (t : S43) (h : tokM f = some t) : fin3 out (scanL (f :: r)) = fin3 (out ++ [t]) (scanL r) := by
  simp only [scanL, h, Option.bind_some]
  cases scanL r with
  | none => rfl
  | some ts => simp [fin3]
theorem fin3_fail (out : List S43) (f : ByteArray) (r : List ByteArray) (h : tokM f = none) : fin3 out (scanL (f :: r)) = ([], false) := by
  simp only [scanL, h, Option.bind_none]
  rfl
theorem pc_each : ∀ (l cur : List UInt8), ∀ p ∈ pc l cur, p.length ≤ cur.length + l.length
  | [], cur, p, hp => by
    simp only [pc, List.mem_singleton] at hp
    subst hp
    simp
  | u :: r, cur, p, hp => by
    rw [pc] at hp
    split at hp
    · rcases List.mem_cons.1 hp with rfl | hp
      · simp only [List.length_cons]; omega
      · have := pc_each r [] p hp
        simp only [List.length_cons, List.length_nil] at this ⊢; omega
    · have := pc_each r _ p hp
      simp only [List.length_append, List.length_cons, List.length_nil] at this ⊢; omega
/-- The fields are not empty and not long. -/
theorem splM_each (l : List UInt8) : ∀ f ∈ (splM l).1, 1 ≤ f.size ∧ f.size ≤ 600 := by
  unfold splM
  split
  · intro f hf; simp at hf
  · split
    · unfold fin2
      split
      · intro f hf; simp at hf
      · intro f hf
        have hf2 : f ∈ (flds l []).map mkB := hf
        obtain ⟨p, hp, rfl⟩ := List.mem_map.1 hf2
        obtain ⟨hp1, hp2⟩ := List.mem_filter.1 hp
        have := pc_each l [] p hp1
        have hs : (mkB p).size = p.length := size_mk p
        have hne : p ≠ [] := by
          intro h; subst h; simp at hp2
        have := List.length_pos_iff.2 hne
        simp only [List.length_nil] at *
        omega
    · intro f hf; simp at hf
theorem first_byte (f : ByteArray) (h : 1 ≤ f.size) : f.data.toList = f.data.getD 0 0 :: f.data.toList.drop 1 := by
  have := drop_bytes f 0 (by omega)
  simpa using this
theorem bt_zero (f : ByteArray) (h : 1 ≤ f.size) : bt f 0 = ((f.data.getD 0 0).toNat : Int) := by
  have := bt_get f 0 (by omega)
  simpa using this
theorem name_first (f : ByteArray) (h : nameB f = true) : 97 ≤ bt f 0 := by
  unfold nameB at h
  rw [Bool.and_eq_true] at h
  obtain ⟨h1, h2⟩ := h
  have h1 := of_decide_eq_true h1
  rw [letters_step f 0 (by omega), Bool.and_eq_true] at h2
  have := of_decide_eq_true h2.1
  have h3 := this.1
  simpa using h3
/-- A name is no number. -/
theorem name_no_num (f : ByteArray) (h : nameB f = true) : (numM f).2 = false := by
  have h1 := name_first f h
  have hs : 1 ≤ f.size := by
    unfold nameB at h
    rw [Bool.and_eq_true] at h
    exact (of_decide_eq_true h.1).1
  unfold numM
  rw [if_neg (by omega)]
  rw [bt_zero f hs] at h1
  have : parM f.data.toList = (0, false) := by
    rw [first_byte f hs]
    exact par_bad _ _ (by omega)
  rw [this]
  rfl
theorem itoa_negd (n : Nat) (h : 1 ≤ n) : Lib.itoa (-(n : Int)) = 45 :: Lib.decDigits n := Lib.itoa_neg n h
theorem impl_tok (f : ByteArray) (h1 : 1 ≤ f.size) (h2 : f.size ≤ 600) (P : List ByteArray) (out : List S43) (i : Nat) (hi : i < P.length) (hP : P.length ≤ 1000) (ho : out.length ≤ 1000) (hf : P[i] = f) (R : List S43 × Bool) (hn : tokM f = none → R = ([], false))
    (hs : ∀ t, tokM f = some t → Ev (fun k => impl_ScanText.l0 k (out ++ [t]) P (P.length : Int) ((i + 1 : Nat) : Int)) R) : Ev (fun k => impl_ScanText.l0 k out P (P.length : Int) (i : Int)) R := by
  have hrd : rdOf ByteArray.empty P (i : Int) = f := by rw [rdOf_lt P i hi, hf]
  refine Ev.step (fun k => impl_ScanText.l0.eq_2 _ _ _ _ k) ?_
  simp only [if_pos (show (i : Int) < (P.length : Int) by omega), if_pos (show (0 : Int) ≤ (i : Int) by omega), hrd]
  refine Ev.bind (impl_name f (by omega)) ?_
  cases hnm : nameB f with
  | true =>
    simp only [if_true, if_pos (show out.length < 5864062014805 by omega), wrap_succ i (by omega)]
    refine hs _ ?_
    unfold tokM
    rw [name_no_num f hnm, if_neg (by simp), hnm, if_pos rfl]
  | false =>
    simp only [Bool.false_eq_true, if_false, if_pos (show (0 : Int) < (f.size : Int) by omega)]
    have htok : tokM f = if (numM f).2 = true then some ⟨⟨#[]⟩, (numM f).1⟩ else none := by
      unfold tokM
      rw [hnm]
      split <;> rfl
    -- the shared end: a sign and the digits behind it
    have rest : ∀ (sg : Int) (dg : ByteArray), (sg = 1 ∨ sg = -1) →
        (parM dg.data.toList = (0, false) → tokM f = none) →
        (∀ n : Nat, n ≤ 1000000000 → parM dg.data.toList = ((n : Int), true) → (n > 999 → tokM f = none) ∧ (n ≤ 999 → if Lib.itoa (sg * (n : Int)) = f.data.toList then tokM f = some ⟨⟨#[]⟩, sg * (n : Int)⟩ else tokM f = none)) →
        Ev (fun k => impl_ScanText.j2 k out f sg dg P (P.length : Int) (i : Int)) R := by
      intro sg dg hsg hbad hgood
      refine Ev.step (fun k => impl_ScanText.j2.eq_2 _ _ _ _ _ _ _ k) ?_
      refine Ev.bind (impl_parse dg) ?_
      rcases par_cases dg.data.toList with hp | ⟨n, hn0, hdl, hp⟩
      · rw [hp]
        simp only [Bool.false_eq_true, if_false]
        rw [hn (hbad hp)]
        exact Ev.now _
      · rw [hp]
        obtain ⟨g1, g2⟩ := hgood n hn0 hp
        simp only [if_true]
        by_cases h9 : (n : Int) > 999
        · simp only [if_pos h9]
          rw [hn (g1 (by omega))]
          exact Ev.now _
        · simp only [if_neg h9]
          have e : wrap64 (sg * (n : Int)) = sg * (n : Int) := by rcases hsg with rfl | rfl <;> exact wrap_id (by omega) (by omega)
          have hr : -9223372036854775808 ≤ sg * (n : Int) ∧ sg * (n : Int) ≤ 9223372036854775807 := by rcases hsg with rfl | rfl <;> omega
          have g3 := g2 (by omega)
          unfold impl_FormatInt.f
          simp only [e, if_pos hr, Option.bind_some, toList_mk, Lib.toList_data]
          by_cases hq : Lib.itoa (sg * (n : Int)) = f.data.toList
          · rw [if_pos hq] at g3
            simp only [if_pos hq, if_pos (show out.length < 5864062014805 by omega), wrap_succ i (by omega)]
            exact hs _ g3
          · rw [if_neg hq] at g3
            simp only [if_neg hq]
            rw [hn g3]
            exact Ev.now _
    by_cases h45 : bt f 0 = 45
    · simp only [if_pos h45, if_pos (show (1 : Int) ≤ (f.size : Int) by omega)]
      have hu : f.data.getD 0 0 = 45 := by
        rw [bt_zero f h1] at h45
        apply UInt8.toNat_inj.1
        show _ = 45
        omega
      have hfl : f.data.toList = 45 :: (f.extract 1 f.size).data.toList := by
        rw [Lib.extract_to_end, ← hu]
        exact first_byte f h1
      refine rest (-1) _ (Or.inr rfl) ?_ ?_
      · intro hp
        have hz : (numM f).2 = false := by
          unfold numM
          by_cases hs1 : f.size > 1
          · rw [if_pos ⟨hs1, h45⟩, hp]
            rfl
          · rw [if_neg (fun h => hs1 h.1), hfl, par_bad 45 _ (by decide)]
            rfl
        rw [htok, if_neg (by rw [hz]; decide)]
      · intro n hn0 hp
        have hs1 : f.size > 1 := by
          rcases par_cases (f.extract 1 f.size).data.toList with h | ⟨m, _, hm, h⟩
          · rw [hp] at h
            simp at h
          · have := congrArg List.length hfl
            rw [hm, size_toList] at this
            have hne := List.length_pos_iff.2 (dec_ne m)
            simp only [List.length_cons] at this
            omega
        have hnum : numM f = (-(n : Int), true && decide (1 ≤ (n : Int) ∧ (n : Int) ≤ 999)) := by
          unfold numM
          rw [if_pos ⟨hs1, h45⟩, hp]
        have hdl : (f.extract 1 f.size).data.toList = Lib.decDigits n := by
          rcases par_cases (f.extract 1 f.size).data.toList with h | ⟨m, _, hm, h⟩
          · rw [hp] at h
            simp at h
          · rw [hp] at h
            have : (n : Int) = (m : Int) := congrArg Prod.fst h
            rw [hm, show n = m by omega]
        refine ⟨fun h9 => ?_, fun h9 => ?_⟩
        · rw [htok, hnum, decide_eq_false (by omega)]
          rfl
        · by_cases h0 : n = 0
          · subst h0
            have : Lib.itoa (-1 * ((0 : Nat) : Int)) ≠ f.data.toList := by
              rw [hfl]
              have e0 : Lib.itoa (-1 * ((0 : Nat) : Int)) = Lib.decDigits 0 := by
                rw [show (-1 * ((0 : Nat) : Int)) = ((0 : Nat) : Int) by omega, Lib.itoa_nonneg]
              rw [e0, Lib.decDigits_one (by omega)]
              intro h
              have := List.cons.inj h
              exact absurd this.1 (by decide)
            rw [if_neg this, htok, hnum, decide_eq_false (by omega)]
            rfl
          · have : Lib.itoa (-1 * (n : Int)) = f.data.toList := by
              rw [show -1 * (n : Int) = -(n : Int) by omega, itoa_negd n (by omega), hfl, hdl]
            rw [if_pos this, htok, hnum, decide_eq_true (by omega)]
            rw [show -1 * (n : Int) = -(n : Int) by omega]
            rfl
    · simp only [if_neg h45]
      have hnum0 : numM f = ((parM f.data.toList).1, (parM f.data.toList).2 && decide ((parM f.data.toList).1 ≤ 999)) := by
        unfold numM
        rw [if_neg (by omega)]
      refine rest 1 _ (Or.inl rfl) ?_ ?_
      · intro hp
        rw [htok, hnum0, hp, if_neg (by decide)]
      · intro n hn0 hp
        have hdl : f.data.toList = Lib.decDigits n := by
          rcases par_cases f.data.toList with h | ⟨m, _, hm, h⟩
          · rw [hp] at h
            simp at h
          · rw [hp] at h
            have : (n : Int) = (m : Int) := congrArg Prod.fst h
            rw [hm, show n = m by omega]
        refine ⟨fun h9 => ?_, fun h9 => ?_⟩
        · rw [htok, hnum0, hp]
          simp only
          rw [decide_eq_false (by omega)]
          rfl
        · have : Lib.itoa (1 * (n : Int)) = f.data.toList := by
            rw [Int.one_mul, Lib.itoa_nonneg, hdl]
          rw [if_pos this, htok, hnum0, hp]
          simp only
          rw [decide_eq_true (by omega), Int.one_mul]
          rfl
theorem impl_scan_loop (P : List ByteArray) (hP : P.length ≤ 24) (hE : ∀ f ∈ P, 1 ≤ f.size ∧ f.size ≤ 600) : ∀ (d i : Nat) (out : List S43), i + d = P.length → out.length ≤ i →
    Ev (fun k => impl_ScanText.l0 k out P (P.length : Int) (i : Int)) (fin3 out (scanL (P.drop i))) := by
  intro d
  induction d with
  | zero =>
    intro i out hi ho
    refine Ev.step (fun k => impl_ScanText.l0.eq_2 _ _ _ _ k) ?_
    simp only [if_neg (show ¬ (i : Int) < (P.length : Int) by omega)]
    rw [List.drop_of_length_le (by omega)]
    simp only [scanL, fin3, List.append_nil]
    exact Ev.now _
  | succ d ih =>
    intro i out hi ho
    have hil : i < P.length := by omega
    have he := hE P[i] (List.getElem_mem _)
    rw [List.drop_eq_getElem_cons hil]
    refine impl_tok P[i] he.1 he.2 P out i hil (by omega) (by omega) rfl _ (fin3_fail out _ _) ?_
    intro t ht
    rw [fin3_step out _ _ t ht]
    exact ih (i + 1) (out ++ [t]) (by omega) (by simp; omega)
theorem impl_scan (a : ByteArray) : Ev (fun k => impl_ScanText.f k a) (scanM a) := by
  unfold impl_ScanText.f scanM
  have hl := splM_len a.data.toList
  refine Ev.bind (impl_split a) ?_
  cases hb : (splM a.data.toList).2 with
  | false =>
    simp only [Bool.false_eq_true, if_false]
    refine Ev.step (fun k => impl_ScanText.j0.eq_2 _ _ k) ?_
    simp only [if_true]
    exact Ev.now _
  | true =>
    simp only [if_true, decide_eq_false (show ¬ ((splM a.data.toList).1.length : Int) > 60 by omega)]
    refine Ev.step (fun k => impl_ScanText.j0.eq_2 _ _ k) ?_
    simp only [Bool.false_eq_true, if_false]
    exact impl_scan_loop _ hl (splM_each _) (splM a.data.toList).1.length 0 [] (by omega) (Nat.le_refl _)
theorem fig_digit : ∀ n : Nat, n < 10 → spec_l01Figure.f (n : Int) = some ((48 + n : Nat) : Int) := by decide +kernel
theorem str_digit : ∀ n : Nat, n < 10 → strOfNums [((48 + n : Nat) : Int)] = ⟨[UInt8.ofNat (48 + n)].toArray⟩ := by
  intro n hn
  show (⟨#[UInt8.ofNat ((48 + n : Nat) : Int).toNat]⟩ : ByteArray) = _
  rw [Int.toNat_natCast]
def signed (b : Bool) (l : List UInt8) : List UInt8 := if b = true then 45 :: l else l
theorem spec_fmt_loop (b : Bool) : ∀ (d m : Nat) (x : Int) (l : List UInt8), m ≤ d → m ≠ 0 → m ≤ 9223372036854775808 → (x = (m : Int) ∨ x = -(m : Int)) → -9223372036854775808 ≤ x → x ≤ 9223372036854775807 → l.length + Lib.nDigits m ≤ 100 →
    Ev (fun k => spec_FormatInt.l0 k x b ⟨l.toArray⟩) ⟨(signed b (Lib.decDigits m ++ l)).toArray⟩ := by
  intro d
  induction d with
  | zero => intro m x l h1 h2; omega
  | succ d ih =>
    intro m x l hmd hm0 hm hx hx0 hx1 hl
    have hm10 : m % 10 < 10 := Nat.mod_lt _ (by omega)
    have hnx : ¬ x = 0 := by rcases hx with rfl | rfl <;> omega
    have t1 : x.tmod 10 = if x < 0 then -((m % 10 : Nat) : Int) else ((m % 10 : Nat) : Int) := by
      rcases hx with rfl | rfl
      · rw [if_neg (by omega)]; rfl
      · rw [if_pos (by omega), Int.neg_tmod]; rfl
    have t2 : x.tdiv 10 = (if x < 0 then -((m / 10 : Nat) : Int) else ((m / 10 : Nat) : Int)) := by
      rcases hx with rfl | rfl
      · rw [if_neg (by omega)]; rfl
      · rw [if_pos (by omega), Int.neg_tdiv]; rfl
    have w2 : wrap64 (x.tdiv 10) = x.tdiv 10 := wrap_id (by rw [t2]; split <;> omega) (by rw [t2]; split <;> omega)
    have hsz : (⟨l.toArray⟩ : ByteArray).size = l.length := by simp [ByteArray.size]
    have hsz1 : (⟨[UInt8.ofNat (48 + m % 10)].toArray⟩ : ByteArray).size = 1 := rfl
    -- the next round, whichever sign
    have next : Ev (fun k => spec_FormatInt.l0 k (x.tdiv 10) b ((⟨[UInt8.ofNat (48 + m % 10)].toArray⟩ : ByteArray) ++ ⟨l.toArray⟩)) ⟨(signed b (Lib.decDigits m ++ l)).toArray⟩ := by
      rw [str_app]
      by_cases h10 : m < 10
      · have e0 : x.tdiv 10 = 0 := by rw [t2]; split <;> omega
        rw [e0]
        refine Ev.step (fun k => spec_FormatInt.l0.eq_2 _ _ _ k) ?_
        simp only [if_true]
        have ed : Lib.decDigits m = [UInt8.ofNat (48 + m % 10)] := by rw [Lib.decDigits, dif_pos h10, Nat.mod_eq_of_lt h10]
        rw [ed]
        unfold signed
        cases b
        · simp only [Bool.false_eq_true, if_false]
          exact Ev.now _
        · simp only [if_true]
          rw [if_pos (by
            have : (⟨([UInt8.ofNat (48 + m % 10)] ++ l).toArray⟩ : ByteArray).size = l.length + 1 := by simp [ByteArray.size]
            rw [this]
            omega)]
          rw [show (⟨#[45]⟩ : ByteArray) = ⟨[(45 : UInt8)].toArray⟩ from rfl, str_app]
          exact Ev.now _
      · have ed : Lib.decDigits m = Lib.decDigits (m / 10) ++ [UInt8.ofNat (48 + m % 10)] := by rw [Lib.decDigits, dif_neg h10]
        have en : Lib.nDigits m = Lib.nDigits (m / 10) + 1 := by rw [Lib.nDigits, dif_neg h10]
        rw [ed, List.append_assoc]
        refine ih (m / 10) _ _ (by omega) (by omega) (by omega) ?_ ?_ ?_ ?_
        · rw [t2]; split
          · exact Or.inr rfl
          · exact Or.inl rfl
        · rw [t2]; split <;> omega
        · rw [t2]; split <;> omega
        · simp only [List.length_append, List.length_cons, List.length_nil]; omega
    refine Ev.step (fun k => spec_FormatInt.l0.eq_2 _ _ _ k) ?_
    simp only [if_neg hnx]
    by_cases hneg : (x.tmod 10) < 0
    · have e1 : wrap64 (-(x.tmod 10)) = ((m % 10 : Nat) : Int) := by
        rw [t1] at hneg ⊢
        split at hneg
        · rename_i h; rw [if_pos h, wrap_id (by omega) (by omega)]; omega
        · omega
      simp only [if_pos hneg, e1, fig_digit _ hm10, Option.bind_some, str_digit _ hm10, hsz, hsz1, if_pos (show 1 + l.length ≤ 9223372036854775807 by omega), w2]
      exact next
    · have e1 : x.tmod 10 = ((m % 10 : Nat) : Int) := by
        rw [t1] at hneg ⊢
        split at hneg
        · rename_i h; rw [if_pos h]; omega
        · rename_i h; rw [if_neg h]
      simp only [if_neg hneg]
      simp only [e1, fig_digit _ hm10, Option.bind_some, str_digit _ hm10, hsz, hsz1, if_pos (show 1 + l.length ≤ 9223372036854775807 by omega), w2]
      exact next
theorem spec_fmt (a : Int) (h0 : -9223372036854775808 ≤ a) (h1 : a ≤ 9223372036854775807) : Ev (fun k => spec_FormatInt.f k a) ⟨(Lib.itoa a).toArray⟩ := by
  unfold spec_FormatInt.f
  by_cases hz : a = 0
  · subst hz
    simp only [if_true]
    have e : Lib.itoa 0 = [48] := by
      unfold Lib.itoa
      rw [if_neg (by omega)]
      exact Lib.decDigits_one (i := 0) (by omega)
    rw [e]
    exact Ev.now _
  · simp only [if_neg hz]
    have hb := spec_fmt_loop (decide (a < 0)) a.natAbs a.natAbs a [] (Nat.le_refl _) (by omega) (by omega) (by omega) h0 h1 (by
      have := nDigits_le 19 a.natAbs (by have : (10 : Nat) ^ (19 + 1) = 100000000000000000000 := by decide
                                         omega)
      simp only [List.length_nil]; omega)
    have e : signed (decide (a < 0)) (Lib.decDigits a.natAbs ++ []) = Lib.itoa a := by
      unfold signed Lib.itoa
      rw [List.append_nil]
      by_cases hn : a < 0
      · rw [if_pos (decide_eq_true hn), if_pos hn]
      · rw [if_neg (by simpa using hn), if_neg hn]
        rw [show a.natAbs = a.toNat by omega]
    rw [e] at hb
    exact hb
theorem spec_parse_loop (a : ByteArray) (ha : a.size ≤ 10) : ∀ (d i n : Nat), i + d = a.size → n < 10 ^ i →
    Ev (fun k => spec_ParseUint.l0 k a (n : Int) (i : Int)) (fin a.data.toList (digs (a.data.toList.drop i) n)) := by
  intro d
  induction d with
  | zero =>
    intro i n hi hn
    have hp : 10 ^ i ≤ 10 ^ 10 := Nat.pow_le_pow_right (by omega) (by omega)
    have hq : (10 : Nat) ^ 10 = 10000000000 := by decide
    refine Ev.step (fun k => spec_ParseUint.l0.eq_2 _ _ _ k) ?_
    simp only [if_neg (show ¬ (i : Int) < (a.size : Int) by omega)]
    rw [List.drop_of_length_le (by rw [size_toList]; omega), digs]
    unfold fin
    by_cases hb : (n : Int) > 1000000000
    · simp only [if_pos hb, if_pos (show n > 1000000000 by omega)]
      exact Ev.now _
    · simp only [if_neg hb, if_neg (show ¬ n > 1000000000 by omega)]
      refine Ev.bind (spec_fmt (n : Int) (by omega) (by omega)) ?_
      rw [Lib.itoa_nonneg, toList_mk, Lib.toList_data]
      split <;> exact Ev.now _
  | succ d ih =>
    intro i n hi hn
    have hp : 10 ^ i ≤ 10 ^ 10 := Nat.pow_le_pow_right (by omega) (by omega)
    have hq : (10 : Nat) ^ 10 = 10000000000 := by decide
    have hu : (a.data.getD i 0).toNat < 256 := (a.data.getD i 0).toNat_lt
    refine Ev.step (fun k => spec_ParseUint.l0.eq_2 _ _ _ k) ?_
    simp only [if_pos (show (i : Int) < (a.size : Int) by omega), if_pos (show (0 : Int) ≤ (i : Int) by omega), bt_get a i (by omega)]
    rw [drop_bytes a i (by omega), digs]
    generalize (a.data.getD i 0).toNat = u at hu
    by_cases h1 : (u : Int) < 48
    · simp only [if_pos h1]
      rw [if_neg (by omega)]
      exact Ev.now _
    simp only [if_neg h1]
    by_cases h2 : (u : Int) > 57
    · simp only [if_pos h2]
      rw [if_neg (by omega)]
      exact Ev.now _
    simp only [if_neg h2]
    rw [if_pos (by omega)]
    have e : wrap64 (wrap64 (wrap64 (10 * (n : Int)) + wrap64 (u : Int)) - 48) = ((10 * n + (u - 48) : Nat) : Int) := by
      rw [wrap_id (x := 10 * (n : Int)) (by omega) (by omega), wrap_id (x := (u : Int)) (by omega) (by omega), wrap_id (x := 10 * (n : Int) + (u : Int)) (by omega) (by omega), wrap_id (by omega) (by omega)]
      omega
    rw [e, wrap_succ i (by omega)]
    exact ih (i + 1) _ (by omega) (by rw [Nat.pow_succ]; omega)
theorem spec_parse (a : ByteArray) : Ev (fun k => spec_ParseUint.f k a) (parM a.data.toList) := by
  unfold spec_ParseUint.f parM
  rw [size_toList]
  by_cases h : (a.size : Int) > 10
  · simp only [if_pos h, if_pos (show a.size > 10 by omega)]
    exact Ev.now _
  · simp only [if_neg h, if_neg (show ¬ a.size > 10 by omega)]
    exact spec_parse_loop a (by omega) a.size 0 0 (by omega) (by decide)
theorem cut_bytes (a : ByteArray) (b i : Nat) : a.extract b i = mkB ((a.data.toList.drop b).take (i - b)) := by
  apply ByteArray.ext
  show (a.extract b i).data = _
  rw [ByteArray.data_extract]
  apply Array.ext'
  simp [mkB, Array.toList_extract, List.extract]
theorem cut_grow (a : ByteArray) (b i : Nat) (hb : b ≤ i) (hi : i < a.size) : (a.data.toList.drop b).take (i + 1 - b) = (a.data.toList.drop b).take (i - b) ++ [a.data.getD i 0] := by
  have hl : i < a.data.toList.length := by rw [size_toList]; exact hi
  rw [show i + 1 - b = (i - b) + 1 by omega, List.take_succ_eq_append_getElem (by rw [List.length_drop]; omega)]
  congr 2
  rw [List.getElem_drop]
  have e : b + (i - b) = i := by omega
  simp only [e]
  rw [Array.getD_eq_getD_getElem?, Array.getElem?_eq_getElem (show i < a.data.size from hi), Array.getElem_toList]
  rfl
theorem spec_spl (a : ByteArray) (ha : a.size ≤ 600) : ∀ (d i b : Nat) (out : List ByteArray), i + d = a.size → b ≤ i → out.length ≤ i →
    Ev (fun k => spec_SplitFields.l0 k a out (b : Int) (i : Int)) (if okB (a.data.toList.drop i) = true then fin2 (out ++ (flds (a.data.toList.drop i) ((a.data.toList.drop b).take (i - b))).map mkB) else ([], false)) := by
  intro d
  induction d with
  | zero =>
    intro i b out hi hb ho
    have hend : ∀ (o : List ByteArray) (x : Int), Ev (fun k => spec_SplitFields.l0 k a o x ((i + 1 : Nat) : Int)) (fin2 o) := by
      intro o x
      refine Ev.step (fun k => spec_SplitFields.l0.eq_2 _ _ _ _ k) ?_
      simp only [if_neg (show ¬ ((i + 1 : Nat) : Int) ≤ (a.size : Int) by omega)]
      unfold fin2
      by_cases h : (o.length : Int) > 24
      · simp only [if_pos h, if_pos (show o.length > 24 by omega)]
        exact Ev.now _
      · simp only [if_neg h, if_neg (show ¬ o.length > 24 by omega)]
        exact Ev.now _
    refine Ev.step (fun k => spec_SplitFields.l0.eq_2 _ _ _ _ k) ?_
    simp only [if_pos (show (i : Int) ≤ (a.size : Int) by omega), if_neg (show ¬ (i : Int) < (a.size : Int) by omega)]
    refine Ev.step (fun k => spec_SplitFields.j1.eq_2 _ _ _ _ _ k) ?_
    simp only [Bool.false_eq_true, if_false, if_neg (show ¬ (i : Int) < (a.size : Int) by omega)]
    refine Ev.step (fun k => spec_SplitFields.j2.eq_2 _ _ _ _ _ k) ?_
    simp only [Bool.false_eq_true, if_false, wrap_succ i (by omega), Int.toNat_natCast]
    rw [List.drop_of_length_le (i := i) (by rw [size_toList]; omega), if_pos (show okB [] = true from rfl), flds_nil]
    by_cases hlt : (b : Int) < (i : Int)
    · simp only [if_pos hlt, if_pos (show (0 : Int) ≤ (b : Int) by omega), if_pos (show (b : Int) ≤ (i : Int) by omega), if_pos (show (i : Int) ≤ (a.size : Int) by omega), if_pos (show out.length < 8796093022208 by omega), cut_bytes]
      have hne : (a.data.toList.drop b).take (i - b) ≠ [] := by
        intro h
        have := congrArg List.length h
        rw [List.length_take, List.length_drop, size_toList] at this
        simp at this
        omega
      rw [if_neg hne]
      exact hend _ _
    · simp only [if_neg hlt]
      have he : (a.data.toList.drop b).take (i - b) = [] := by rw [show i - b = 0 by omega]; rfl
      rw [if_pos he]
      simp only [List.map_nil, List.append_nil]
      exact hend _ _
  | succ d ih =>
    intro i b out hi hb ho
    have hu : (a.data.getD i 0).toNat < 256 := (a.data.getD i 0).toNat_lt
    refine Ev.step (fun k => spec_SplitFields.l0.eq_2 _ _ _ _ k) ?_
    simp only [if_pos (show (i : Int) ≤ (a.size : Int) by omega), if_pos (show (i : Int) < (a.size : Int) by omega), if_pos (show (0 : Int) ≤ (i : Int) by omega), bt_get a i (by omega)]
    rw [drop_bytes a i (by omega)]
    have hok : okB (a.data.getD i 0 :: a.data.toList.drop (i + 1)) = (decide (32 ≤ (a.data.getD i 0).toNat ∧ (a.data.getD i 0).toNat ≤ 126) && okB (a.data.toList.drop (i + 1))) := rfl
    rw [hok]
    by_cases h1 : ((a.data.getD i 0).toNat : Int) < 32
    · simp only [if_pos h1]
      rw [decide_eq_false (by omega), Bool.false_and]
      refine Ev.step (fun k => spec_SplitFields.j1.eq_2 _ _ _ _ _ k) ?_
      simp only [if_true]
      exact Ev.now _
    simp only [if_neg h1]
    refine Ev.step (fun k => spec_SplitFields.j1.eq_2 _ _ _ _ _ k) ?_
    by_cases h2 : ((a.data.getD i 0).toNat : Int) > 126
    · simp only [decide_eq_true h2, if_true]
      rw [decide_eq_false (by omega), Bool.false_and]
      exact Ev.now _
    simp only [decide_eq_false h2, Bool.false_eq_true, if_false, if_pos (show (i : Int) < (a.size : Int) by omega), if_pos (show (0 : Int) ≤ (i : Int) by omega), bt_get a i (by omega)]
    rw [decide_eq_true (by omega), Bool.true_and]
    refine Ev.step (fun k => spec_SplitFields.j2.eq_2 _ _ _ _ _ k) ?_
    by_cases h3 : a.data.getD i 0 = 32
    · have e3 : (((a.data.getD i 0).toNat : Int) != 32) = false := by rw [h3]; rfl
      simp only [e3, Bool.false_eq_true, if_false, wrap_succ i (by omega), Int.toNat_natCast]
      rw [h3, flds_sp]
      have hnil : (a.data.toList.drop (i + 1)).take (i + 1 - (i + 1)) = [] := by rw [Nat.sub_self]; rfl
      by_cases hlt : (b : Int) < (i : Int)
      · simp only [if_pos hlt, if_pos (show (0 : Int) ≤ (b : Int) by omega), if_pos (show (b : Int) ≤ (i : Int) by omega), if_pos (show (i : Int) ≤ (a.size : Int) by omega), if_pos (show out.length < 8796093022208 by omega), cut_bytes]
        have hne : (a.data.toList.drop b).take (i - b) ≠ [] := by
          intro h
          have := congrArg List.length h
          rw [List.length_take, List.length_drop, size_toList] at this
          simp at this
          omega
        rw [if_neg hne]
        have h := ih (i + 1) (i + 1) (out ++ [mkB ((a.data.toList.drop b).take (i - b))]) (by omega) (Nat.le_refl _) (by simp; omega)
        rw [hnil] at h
        rw [List.map_append, List.map_cons, List.map_nil, ← List.append_assoc]
        exact h
      · simp only [if_neg hlt]
        have he : (a.data.toList.drop b).take (i - b) = [] := by rw [show i - b = 0 by omega]; rfl
        rw [if_pos he, List.nil_append]
        have h := ih (i + 1) (i + 1) out (by omega) (Nat.le_refl _) (by omega)
        rw [hnil] at h
        exact h
    · have e3 : (((a.data.getD i 0).toNat : Int) != 32) = true := by
        rw [bne_iff_ne]
        intro h
        apply h3
        apply UInt8.toNat_inj.1
        show _ = 32
        omega
      simp only [e3, if_true, wrap_succ i (by omega)]
      rw [flds_by _ _ _ h3]
      have h := ih (i + 1) b out (by omega) (by omega) (by omega)
      rw [cut_grow a b i hb (by omega)] at h
      exact h
theorem spec_split (a : ByteArray) : Ev (fun k => spec_SplitFields.f k a) (splM a.data.toList) := by
  unfold spec_SplitFields.f splM
  rw [size_toList]
  simp only [Option.bind_some]
  by_cases h : (a.size : Int) > 600
  · simp only [if_pos h, if_pos (show a.size > 600 by omega)]
    exact Ev.now _
  · simp only [if_neg h, if_neg (show ¬ a.size > 600 by omega)]
    exact spec_spl a (by omega) a.size 0 0 [] (by omega) (Nat.le_refl _) (Nat.le_refl _)
theorem spec_num (f : ByteArray) (h1 : 1 ≤ f.size) (h2 : f.size ≤ 600) : Ev (fun k => spec_l04Number.f k f) (numM f) := by
  unfold spec_l04Number.f numM
  have neg : ∀ (x : Int), 0 ≤ x → x ≤ 1000000000 → wrap64 (-x) = -x := fun x a b => wrap_id (by omega) (by omega)
  have plain : Ev (fun k => spec_l04Number.j0 k f false) ((parM f.data.toList).1, (parM f.data.toList).2 && decide ((parM f.data.toList).1 ≤ 999)) := by
    refine Ev.step (fun k => spec_l04Number.j0.eq_2 _ _ k) ?_
    simp only [Bool.false_eq_true, if_false]
    refine Ev.bind (spec_parse f) ?_
    cases (parM f.data.toList).2
    · simp only [Bool.false_eq_true, if_false, Bool.false_and]
      exact Ev.now _
    · simp only [if_true, Bool.true_and]
      exact Ev.now _
  by_cases hs : (f.size : Int) > 1
  · simp only [if_pos hs, if_pos (show (0 : Int) < (f.size : Int) by omega)]
    by_cases h45 : bt f 0 = 45
    · rw [if_pos ⟨by omega, h45⟩]
      have hb : (bt f 0 == 45) = true := by rw [h45]; rfl
      simp only [hb]
      refine Ev.step (fun k => spec_l04Number.j0.eq_2 _ _ k) ?_
      simp only [if_true, if_pos (show (1 : Int) ≤ (f.size : Int) by omega)]
      refine Ev.bind (spec_parse _) ?_
      rcases par_cases (f.extract 1 f.size).data.toList with hp | ⟨n, hn, _, hp⟩
      · rw [hp]
        simp only [Bool.false_eq_true, if_false, Bool.false_and]
        rw [neg 0 (by omega) (by omega)]
        exact Ev.now _
      · rw [hp]
        simp only [if_true, Bool.true_and, spec_in, Option.bind_some]
        rw [neg (n : Int) (by omega) (by omega)]
        exact Ev.now _
    · rw [if_neg (by omega)]
      have hb : (bt f 0 == 45) = false := beq_eq_false_iff_ne.2 h45
      simp only [hb]
      exact plain
  · simp only [if_neg hs]
    rw [if_neg (by omega)]
    exact plain
theorem spec_scan_loop (P : List ByteArray) (hP : P.length ≤ 24) (hE : ∀ f ∈ P, 1 ≤ f.size ∧ f.size ≤ 600) : ∀ (d i : Nat) (out : List S43), i + d = P.length → out.length ≤ i →
    Ev (fun k => spec_ScanText.l0 k P out (i : Int)) (fin3 out (scanL (P.drop i))) := by
  intro d
  induction d with
  | zero =>
    intro i out hi ho
    refine Ev.step (fun k => spec_ScanText.l0.eq_2 _ _ _ k) ?_
    simp only [if_neg (show ¬ (i : Int) < (P.length : Int) by omega)]
    rw [List.drop_of_length_le (by omega)]
    simp only [scanL, fin3, List.append_nil]
    exact Ev.now _
  | succ d ih =>
    intro i out hi ho
    have hil : i < P.length := by omega
    have he := hE P[i] (List.getElem_mem _)
    have hrd : rdOf ByteArray.empty P (i : Int) = P[i] := rdOf_lt P i hil
    rw [List.drop_eq_getElem_cons hil]
    refine Ev.step (fun k => spec_ScanText.l0.eq_2 _ _ _ k) ?_
    simp only [if_pos (show (i : Int) < (P.length : Int) by omega), if_pos (show (0 : Int) ≤ (i : Int) by omega), hrd]
    refine Ev.bind (spec_num P[i] he.1 he.2) ?_
    by_cases hn : (numM P[i]).2 = true
    · have ht : tokM P[i] = some ⟨⟨#[]⟩, (numM P[i]).1⟩ := by unfold tokM; rw [if_pos hn]
      rw [fin3_step out _ _ _ ht]
      simp only [if_pos hn, if_pos (show out.length < 5864062014805 by omega), wrap_succ i (by omega)]
      exact ih (i + 1) _ (by omega) (by simp; omega)
    · simp only [if_neg hn]
      refine Ev.bind (spec_name P[i] (by omega)) ?_
      by_cases hm : nameB P[i] = true
      · have ht : tokM P[i] = some ⟨P[i], 0⟩ := by unfold tokM; rw [if_neg hn, if_pos hm]
        rw [fin3_step out _ _ _ ht]
        simp only [if_pos hm, if_pos (show out.length < 5864062014805 by omega), wrap_succ i (by omega)]
        exact ih (i + 1) _ (by omega) (by simp; omega)
      · have ht : tokM P[i] = none := by unfold tokM; rw [if_neg hn, if_neg hm]
        rw [fin3_fail out _ _ ht]
        simp only [if_neg hm]
        exact Ev.now _
theorem spec_scan (a : ByteArray) : Ev (fun k => spec_ScanText.f k a) (scanM a) := by
  unfold spec_ScanText.f scanM
  have hl := splM_len a.data.toList
  refine Ev.bind (spec_split a) ?_
  cases hb : (splM a.data.toList).2 with
  | false =>
    simp only [Bool.false_eq_true, if_false]
    refine Ev.step (fun k => spec_ScanText.j0.eq_2 _ _ k) ?_
    simp only [if_true]
    exact Ev.now _
  | true =>
    simp only [if_true, decide_eq_false (show ¬ ((splM a.data.toList).1.length : Int) > 60 by omega)]
    refine Ev.step (fun k => spec_ScanText.j0.eq_2 _ _ k) ?_
    simp only [Bool.false_eq_true, if_false]
    exact spec_scan_loop _ hl (splM_each _) (splM a.data.toList).1.length 0 [] (by omega) (Nat.le_refl _)
theorem scanL_len : ∀ (P : List ByteArray) (ts : List S43), scanL P = some ts → ts.length = P.length
  | [], ts, h => by simp only [scanL, Option.some.injEq] at h; subst h; rfl
  | f :: r, ts, h => by
    unfold scanL at h
    cases ht : tokM f with
    | none => rw [ht] at h; simp at h
    | some t =>
      rw [ht] at h
      simp only [Option.bind_some] at h
      cases hr : scanL r with
      | none => rw [hr] at h; simp at h
      | some us =>
        rw [hr] at h
        simp only [Option.map_some, Option.some.injEq] at h
        subst h
        have := scanL_len r us hr
        simp only [List.length_cons]
        omega
theorem scanM_len (a : ByteArray) : (scanM a).1.length ≤ 24 := by
  unfold scanM
  have hl := splM_len a.data.toList
  split
  · cases h : scanL (splM a.data.toList).1 with
    | none => simp [fin3]
    | some ts =>
      have := scanL_len _ _ h
      simp only [fin3, List.nil_append]
      omega
  · simp
theorem FnExactScanText : laws_FnExactScanText.Pure := by
  intro a ha
  refine Ev.rounds ?_
  unfold laws_FnExactScanText.f
  by_cases hb : (a.size : Int) > 1048576
  · simp only [if_pos hb]
    exact Ev.now _
  simp only [if_neg hb]
  have hl := scanM_len a
  refine Ev.bind (spec_scan a) ?_
  refine Ev.bind (impl_scan a) ?_
  refine Ev.bind (eqTokens _ (by omega)) ?_
  simp only [if_true, bne_self_eq_false]
  refine Ev.step (fun k => laws_FnExactScanText.j0.eq_2 _ _ _ _ _ k) ?_
  simp only [Bool.false_eq_true, if_false]
  refine Ev.bind (mark_toks _ (by omega)) ?_
  refine Ev.bind (held_toks _ (by omega)) ?_
  simp only [if_neg (show ¬ ((1 + 2 * (scanM a).1.length : Nat) : Int) < 0 by omega), if_true]
  refine Ev.bind (impl_scan a) ?_
  refine Ev.bind (eqTokens _ (by omega)) ?_
  simp only [if_true, bne_self_eq_false]
  refine Ev.step (fun k => laws_FnExactScanText.j1.eq_2 _ _ _ k) ?_
  simp only [Bool.false_eq_true, if_false]
  refine Ev.bind (held_toks _ (by omega)) ?_
  simp only [if_neg (show ¬ ((1 + 2 * (scanM a).1.length : Nat) : Int) < 0 by omega), if_true]
  exact Ev.now _

end Go.Proofs.YtbfeaekgbgfcjaaDoor.Pure

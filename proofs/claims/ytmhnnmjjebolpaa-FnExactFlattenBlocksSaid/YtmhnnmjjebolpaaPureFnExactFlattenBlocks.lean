/- The program's FlattenBlocks returns what the reference's returns, for all arguments. This is its pure statement, over numbers and lists, as printed from the program; the row is built on it.
   Conditions: none. -/
import Derived.Test.YtmhnnmjjebolpaaGFnExactFlattenBlocksx7
import Derived.Lib.ItoaNum
import Derived.Lib.Strings
namespace Go.Proofs.Ytmhnnmjjebolpaa.Pure
set_option linter.unusedSimpArgs false
set_option linter.unusedVariables false
open Go.RowKit Go.Proofs.Ytmhnnmjjebolpaa.GFnExactFlattenBlocks Go.Proofs.YtmhnnmjjebolpaaW.PrintWords Go.Proofs.YtmhnnmjjebolpaaW.PrintLast

theorem wrap_id {x : Int} (h0 : -9223372036854775808 ≤ x) (h1 : x ≤ 9223372036854775807) : wrap64 x = x := by
  unfold wrap64
  omega
theorem wrap_succ (i : Nat) (h : i < 4611686018427387904) : wrap64 ((i : Int) + 1) = ((i + 1 : Nat) : Int) := by
  rw [wrap_id (by omega) (by omega)]
  omega
theorem rd_lt (l : List Int) (i : Nat) (h : i < l.length) : rd l (i : Int) = l[i] := by
  unfold rd
  rw [Int.toNat_natCast, List.getD_eq_getElem?_getD, List.getElem?_eq_getElem h]
  rfl
theorem set_take {α : Type} (l x : List α) (i : Nat) (hi : i < l.length) (hx : x.length = l.length) (h : x.take i = l.take i) :
    (x.set i l[i]).take (i + 1) = l.take (i + 1) := by
  rw [List.take_succ_eq_append_getElem (by simp; omega), List.take_succ_eq_append_getElem hi, List.getElem_set_self, List.take_set_of_le (Nat.le_refl i), h]
def allFrom (p : Nat → Bool) (n i : Nat) : Bool := (List.range' i (n - i)).all p
theorem all_end (p : Nat → Bool) (n : Nat) : allFrom p n n = true := by simp [allFrom]
theorem all_step (p : Nat → Bool) (n i : Nat) (h : i < n) : allFrom p n i = (p i && allFrom p n (i + 1)) := by
  unfold allFrom
  rw [show n - i = (n - (i + 1)) + 1 by omega, List.range'_succ, List.all_cons]
theorem all_iff (p : Nat → Bool) (n i : Nat) : allFrom p n i = true ↔ ∀ j, i ≤ j → j < n → p j = true := by
  unfold allFrom
  rw [List.all_eq_true]
  constructor
  · intro h j h1 h2
    exact h j (List.mem_range'_1.2 ⟨h1, by omega⟩)
  · intro h j hj
    have := List.mem_range'_1.1 hj
    exact h j this.1 (by omega)
theorem spec_in (a b c : Int) : spec_l01In.f a b c = some (decide (b ≤ a ∧ a ≤ c)) := by
  unfold spec_l01In.f
  by_cases h : b ≤ a <;> simp [h]
theorem impl_in (a b c : Int) : impl_within.f a b c = some (decide (b ≤ a ∧ a ≤ c)) := by
  unfold impl_within.f
  by_cases h : b ≤ a <;> simp [h]
def letterB (s : ByteArray) (i : Nat) : Bool := decide (97 ≤ bt s (i : Int) ∧ bt s (i : Int) ≤ 122)
def lettersB (s : ByteArray) (i : Nat) : Bool := (List.range' i (s.size - i)).all (letterB s)
def nameB (s : ByteArray) : Bool := decide (1 ≤ s.size ∧ s.size ≤ 8) && lettersB s 0
theorem letters_end (s : ByteArray) : lettersB s s.size = true := by simp [lettersB]
theorem letters_step (s : ByteArray) (i : Nat) (h : i < s.size) : lettersB s i = (letterB s i && lettersB s (i + 1)) := by
  unfold lettersB
  rw [show s.size - i = (s.size - (i + 1)) + 1 by omega, List.range'_succ, List.all_cons]
theorem spec_letters (s : ByteArray) (hs : s.size ≤ 1048577) : ∀ (d i : Nat), i + d = s.size →
    Ev (fun k => spec_IsName.l0 k s (i : Int)) (lettersB s i && decide (1 ≤ s.size ∧ s.size ≤ 8)) := by
  intro d
  induction d with
  | zero =>
    intro i hi
    refine Ev.step (fun k => spec_IsName.l0.eq_2 _ _ k) ?_
    simp only [if_neg (show ¬ (i : Int) < (s.size : Int) by omega), spec_in, Option.bind_some]
    rw [show i = s.size by omega, letters_end]
    have e : decide ((1 : Int) ≤ (s.size : Int) ∧ (s.size : Int) ≤ 8) = (true && decide (1 ≤ s.size ∧ s.size ≤ 8)) := by
      rw [Bool.true_and]
      exact decide_eq_decide.2 ⟨fun h => by omega, fun h => by omega⟩
    rw [e]
    exact Ev.now _
  | succ d ih =>
    intro i hi
    refine Ev.step (fun k => spec_IsName.l0.eq_2 _ _ k) ?_
    simp only [if_pos (show (i : Int) < (s.size : Int) by omega), if_pos (show (0 : Int) ≤ (i : Int) by omega)]
    rw [wrap_succ i (by omega), letters_step s i (by omega)]
    by_cases h1 : bt s (i : Int) < 97
    · simp only [if_pos h1]
      rw [show letterB s i = false from decide_eq_false (by omega)]
      exact Ev.now _
    · simp only [if_neg h1]
      by_cases h2 : bt s (i : Int) > 122
      · simp only [if_pos h2]
        rw [show letterB s i = false from decide_eq_false (by omega)]
        exact Ev.now _
      · simp only [if_neg h2]
        rw [show letterB s i = true from decide_eq_true (by omega), Bool.true_and]
        exact ih (i + 1) (by omega)
theorem spec_name (s : ByteArray) (hs : s.size ≤ 1048577) : Ev (fun k => spec_IsName.f k s) (nameB s) := by
  unfold spec_IsName.f nameB
  rw [Bool.and_comm]
  exact spec_letters s hs s.size 0 (by omega)
theorem impl_letters (s : ByteArray) (hs : s.size ≤ 1048577) : ∀ (d i : Nat), i + d = s.size →
    Ev (fun k => impl_IsName.l0 k s (i : Int)) (lettersB s i) := by
  intro d
  induction d with
  | zero =>
    intro i hi
    refine Ev.step (fun k => impl_IsName.l0.eq_2 _ _ k) ?_
    simp only [if_neg (show ¬ (i : Int) < (s.size : Int) by omega)]
    rw [show i = s.size by omega, letters_end]
    exact Ev.now _
  | succ d ih =>
    intro i hi
    refine Ev.step (fun k => impl_IsName.l0.eq_2 _ _ k) ?_
    simp only [if_pos (show (i : Int) < (s.size : Int) by omega), if_pos (show (0 : Int) ≤ (i : Int) by omega)]
    rw [wrap_succ i (by omega), letters_step s i (by omega)]
    by_cases h1 : bt s (i : Int) < 97
    · simp only [if_pos h1]
      rw [show letterB s i = false from decide_eq_false (by omega)]
      exact Ev.now _
    · simp only [if_neg h1]
      by_cases h2 : bt s (i : Int) > 122
      · simp only [if_pos h2]
        rw [show letterB s i = false from decide_eq_false (by omega)]
        exact Ev.now _
      · simp only [if_neg h2]
        rw [show letterB s i = true from decide_eq_true (by omega), Bool.true_and]
        exact ih (i + 1) (by omega)
theorem impl_name (s : ByteArray) (hs : s.size ≤ 1048577) : Ev (fun k => impl_IsName.f k s) (nameB s) := by
  unfold impl_IsName.f nameB
  have j (t : Bool) : Ev (fun k => impl_IsName.j0 k s t) (!t && lettersB s 0) := by
    refine Ev.step (fun k => impl_IsName.j0.eq_2 _ _ k) ?_
    cases t
    · simp only [Bool.false_eq_true, if_false, Bool.not_false, Bool.true_and]
      exact impl_letters s hs s.size 0 (by omega)
    · simp only [if_true]
      exact Ev.now _
  by_cases h : (s.size : Int) < 1
  · simp only [if_pos h]
    rw [decide_eq_false (by omega)]
    exact j true
  · simp only [if_neg h]
    have e : decide (1 ≤ s.size ∧ s.size ≤ 8) = !decide ((s.size : Int) > 8) := by
      by_cases h8 : s.size ≤ 8
      · rw [decide_eq_true (by omega), decide_eq_false (by omega)]
        rfl
      · rw [decide_eq_false (by omega), decide_eq_true (by omega)]
        rfl
    rw [e]
    exact j _
def tokenB (s : ByteArray) (n : Int) : Bool := if s.toList = ([] : List UInt8) then decide (-999 ≤ n ∧ n ≤ 999) else nameB s && (n == 0)
theorem spec_token (s : ByteArray) (n : Int) (hs : s.size ≤ 1048577) : Ev (fun k => spec_TokenOk.f k s n) (tokenB s n) := by
  unfold spec_TokenOk.f tokenB
  by_cases h : s.toList = ([] : List UInt8)
  · simp only [if_pos h, spec_in, Option.bind_some]
    exact Ev.now _
  · simp only [if_neg h]
    refine Ev.bind (spec_name s hs) ?_
    cases nameB s <;> simp <;> exact Ev.now _
theorem impl_token (s : ByteArray) (n : Int) (hs : s.size ≤ 1048577) : Ev (fun k => impl_TokenOk.f k s n) (tokenB s n) := by
  unfold impl_TokenOk.f tokenB
  by_cases h : s.toList = ([] : List UInt8)
  · simp only [if_pos h, impl_in, Option.bind_some]
    exact Ev.now _
  · simp only [if_neg h]
    refine Ev.bind (impl_name s hs) ?_
    cases nameB s <;> simp <;> exact Ev.now _
theorem sz_token (s : ByteArray) (n m : Int) (hs : s.size ≤ maxLen) (h0 : 0 ≤ m) (hm : m ≤ 1048576) :
    laws_szToken.f s n m = some (if m - s.size < 0 then -1 else m - s.size) := by
  have hs' : s.size ≤ 9223372036854775807 := hs
  unfold laws_szToken.f
  rw [wrap_id (by omega) (by omega)]
  split <;> rfl
def cvToken (x : S77) : S51 := ⟨x.f0, x.f1⟩
theorem rdlToken_lt (l : List S77) (i : Nat) (h : i < l.length) : rd_T77 l (i : Int) = l[i] := by
  unfold rd_T77
  rw [Int.toNat_natCast, List.getD_eq_getElem?_getD, List.getElem?_eq_getElem h]
  rfl
theorem rdiToken_lt (l : List S51) (i : Nat) (h : i < l.length) : rd_T51 l (i : Int) = l[i] := by
  unfold rd_T51
  rw [Int.toNat_natCast, List.getD_eq_getElem?_getD, List.getElem?_eq_getElem h]
  rfl
theorem toToken_loop (l : List S77) (hl : l.length ≤ 1048576) : ∀ (d i : Nat) (x : List S51), i + d = l.length → x.length = l.length → x.take i = (l.map cvToken).take i →
    Ev (fun k => laws_toTokenS.l0 k l x (i : Int)) (l.map cvToken) := by
  intro d
  induction d with
  | zero =>
    intro i x hi hx ht
    refine Ev.step (fun k => laws_toTokenS.l0.eq_2 _ _ _ k) ?_
    simp only [if_neg (show ¬ (i : Int) < (l.length : Int) by omega)]
    rw [List.take_of_length_le (by omega), List.take_of_length_le (by simp; omega)] at ht
    subst ht
    exact Ev.now _
  | succ d ih =>
    intro i x hi hx ht
    refine Ev.step (fun k => laws_toTokenS.l0.eq_2 _ _ _ k) ?_
    simp only [if_pos (show (i : Int) < (l.length : Int) by omega), if_pos (show (0 : Int) ≤ (i : Int) by omega), if_pos (show (i : Int) < (x.length : Int) by omega), laws_toToken.f, Option.bind_some]
    rw [wrap_succ i (by omega), rdlToken_lt l i (by omega), Int.toNat_natCast]
    refine ih (i + 1) _ (by omega) (by simp; omega) ?_
    have := set_take (l.map cvToken) x i (by simp; omega) (by simp; omega) ht
    rw [List.getElem_map] at this
    exact this
theorem toTokens (l : List S77) (hl : l.length ≤ 1048576) : Ev (fun k => laws_toTokenS.f k l) (l.map cvToken) := by
  unfold laws_toTokenS.f
  simp only [if_pos (show (0 : Int) ≤ (l.length : Int) by omega), Int.toNat_natCast, if_pos (show l.length ≤ 11728124029610 by omega)]
  exact toToken_loop l hl l.length 0 _ (by omega) (by simp) (by simp)
theorem eqToken_loop (l : List S51) (hl : l.length ≤ 1048577) : ∀ (d i : Nat), i + d = l.length →
    Ev (fun k => laws_eqTokenS.l0 k l l (i : Int)) true := by
  intro d
  induction d with
  | zero =>
    intro i hi
    refine Ev.step (fun k => laws_eqTokenS.l0.eq_2 _ _ _ k) ?_
    simp only [if_neg (show ¬ (i : Int) < (l.length : Int) by omega)]
    exact Ev.now _
  | succ d ih =>
    intro i hi
    refine Ev.step (fun k => laws_eqTokenS.l0.eq_2 _ _ _ k) ?_
    simp only [if_pos (show (i : Int) < (l.length : Int) by omega), if_pos (show (0 : Int) ≤ (i : Int) by omega), laws_eqToken.f, if_true, Option.bind_some]
    rw [wrap_succ i (by omega)]
    exact ih (i + 1) (by omega)
theorem eqTokens (l : List S51) (hl : l.length ≤ 1048577) : Ev (fun k => laws_eqTokenS.f k l l) true := by
  unfold laws_eqTokenS.f
  simp only [if_true]
  exact eqToken_loop l hl l.length 0 (by omega)
theorem sz_tokens_loop (l : List S77) (hl : l.length ≤ 1048576) (hs : ∀ x ∈ l, x.f0.size ≤ maxLen) : ∀ (d i : Nat) (m : Int), i + d = l.length → 0 ≤ m → m ≤ 1048576 →
    ∃ v, Ev (fun k => laws_szTokenS.l0 k l m (i : Int)) v ∧ (0 ≤ v → ∀ j : Nat, i ≤ j → ∀ h : j < l.length, l[j].f0.size ≤ 1048576) := by
  intro d
  induction d with
  | zero =>
    intro i m hi h0 h1
    refine ⟨m, Ev.step (fun k => laws_szTokenS.l0.eq_2 _ _ _ k) ?_, fun _ j h1 h2 => by omega⟩
    simp only [if_neg (show ¬ (i : Int) < (l.length : Int) by omega)]
    exact Ev.now _
  | succ d ih =>
    intro i m hi h0 h1
    have hb := hs l[i] (List.getElem_mem _)
    by_cases hc : m - (l[i].f0.size : Int) < 0
    · refine ⟨-1, Ev.step (fun k => laws_szTokenS.l0.eq_2 _ _ _ k) ?_, fun h => by omega⟩
      simp only [if_pos (show (i : Int) < (l.length : Int) by omega), if_pos (show (0 : Int) ≤ (i : Int) by omega)]
      rw [rdlToken_lt l i (by omega), sz_token _ _ m hb h0 h1, if_pos hc]
      simp only [Option.bind_some, if_pos (show (-1 : Int) < 0 by omega)]
      exact Ev.now _
    · obtain ⟨v, e, hv⟩ := ih (i + 1) (m - (l[i].f0.size : Int)) (by omega) (by omega) (by omega)
      refine ⟨v, Ev.step (fun k => laws_szTokenS.l0.eq_2 _ _ _ k) ?_, fun h j h2 h3 => ?_⟩
      · simp only [if_pos (show (i : Int) < (l.length : Int) by omega), if_pos (show (0 : Int) ≤ (i : Int) by omega)]
        rw [rdlToken_lt l i (by omega), sz_token _ _ m hb h0 h1, if_neg hc, wrap_succ i (by omega)]
        simp only [Option.bind_some, if_neg hc]
        exact e
      · by_cases hj : j = i
        · subst hj
          omega
        · exact hv h j (by omega) h3
theorem sz_tokens (l : List S77) (hm : l.length ≤ 9223372036854775807) (hs : ∀ x ∈ l, x.f0.size ≤ maxLen) :
    ∃ v, Ev (fun k => laws_szTokenS.f k l 1048576) v ∧ (0 ≤ v → l.length ≤ 1048576 ∧ ∀ x ∈ l, x.f0.size ≤ 1048576) := by
  unfold laws_szTokenS.f
  rw [wrap_id (x := 1048576 - (l.length : Int)) (by omega) (by omega)]
  by_cases hc : (1048576 : Int) - (l.length : Int) < 0
  · simp only [if_pos hc]
    exact ⟨-1, Ev.now _, fun h => by omega⟩
  · simp only [if_neg hc]
    obtain ⟨v, e, hv⟩ := sz_tokens_loop l (by omega) hs l.length 0 (1048576 - (l.length : Int)) (by omega) (by omega) (by omega)
    refine ⟨v, e, fun h => ⟨by omega, fun x hx => ?_⟩⟩
    obtain ⟨j, hj, rfl⟩ := List.getElem_of_mem hx
    exact hv h j (by omega) hj
theorem cv_sizes (l : List S77) (h : ∀ x ∈ l, x.f0.size ≤ 1048576) : ∀ x ∈ l.map cvToken, x.f0.size ≤ 1048576 := by
  intro x hx
  rw [List.mem_map] at hx
  obtain ⟨u, hu, rfl⟩ := hx
  exact h u hu
theorem str_app (a b : List UInt8) : (⟨a.toArray⟩ : ByteArray) ++ ⟨b.toArray⟩ = ⟨(a ++ b).toArray⟩ := by
  apply ByteArray.ext
  rw [ByteArray.data_append]
  simp
theorem nDigits_le : ∀ (k m : Nat), m < 10 ^ (k + 1) → Lib.nDigits m ≤ k + 1
  | 0, m, h => by rw [Lib.nDigits, dif_pos (by omega)]; omega
  | k + 1, m, h => by
    by_cases h10 : m < 10
    · rw [Lib.nDigits, dif_pos h10]; omega
    · rw [Lib.nDigits, dif_neg h10]
      have := nDigits_le k (m / 10) (by rw [Nat.pow_succ] at h; omega)
      omega
theorem bt_get (a : ByteArray) (i : Nat) (h : i < a.size) : bt a (i : Int) = ((a.data.getD i 0).toNat : Int) := by
  have e : a.data.getD i 0 = a[i] := by
    rw [Array.getD_eq_getD_getElem?, Array.getElem?_eq_getElem (show i < a.data.size from h)]
    rfl
  rw [e]
  unfold bt
  rw [dif_pos (show (i : Int).toNat < a.size by omega)]
  rfl
theorem drop_bytes (a : ByteArray) (i : Nat) (h : i < a.size) : a.data.toList.drop i = a.data.getD i 0 :: a.data.toList.drop (i + 1) := by
  have hl : i < a.data.toList.length := by rw [Array.length_toList]; exact h
  rw [List.drop_eq_getElem_cons hl]
  congr 1
  rw [Array.getD_eq_getD_getElem?, Array.getElem?_eq_getElem (show i < a.data.size from h), Array.getElem_toList]
  rfl
theorem size_toList (a : ByteArray) : a.data.toList.length = a.size := by rw [Array.length_toList]; rfl
theorem size_mk (l : List UInt8) : (⟨l.toArray⟩ : ByteArray).size = l.length := by simp [ByteArray.size]
theorem toList_mk (l : List UInt8) : (⟨l.toArray⟩ : ByteArray).toList = l := by rw [Lib.toList_data]
/-- The text of a mark. -/
def mtx (n : Nat) : ByteArray := ⟨(109 :: Lib.decDigits n).toArray⟩
theorem str_digitM : ∀ n : Nat, n < 10 → strOfNums [(wrap64 (48 + (n : Int))) % 256] = ⟨[UInt8.ofNat (48 + n)].toArray⟩ := by
  intro n hn
  rw [show (wrap64 (48 + (n : Int))) % 256 = ((48 + n : Nat) : Int) by unfold wrap64; omega]
  show (⟨#[UInt8.ofNat ((48 + n : Nat) : Int).toNat]⟩ : ByteArray) = _
  rw [Int.toNat_natCast]
theorem mark_loop : ∀ (d m : Nat) (l : List UInt8), m ≤ d → m ≠ 0 → m ≤ 4611686018427387904 → l.length + Lib.nDigits m ≤ 100 →
    Ev (fun k => laws_markText.l0 k (m : Int) ⟨l.toArray⟩) ⟨(109 :: (Lib.decDigits m ++ l)).toArray⟩ := by
  intro d
  induction d with
  | zero => intro m l h1 h2; omega
  | succ d ih =>
    intro m l hmd hm0 hm hl
    have hm10 : m % 10 < 10 := Nat.mod_lt _ (by omega)
    have hsz : (⟨l.toArray⟩ : ByteArray).size = l.length := size_mk l
    have hsz1 : (⟨[UInt8.ofNat (48 + m % 10)].toArray⟩ : ByteArray).size = 1 := rfl
    have t1 : Int.tmod (m : Int) 10 = ((m % 10 : Nat) : Int) := rfl
    have t2 : Int.tdiv (m : Int) 10 = ((m / 10 : Nat) : Int) := rfl
    refine Ev.step (fun k => laws_markText.l0.eq_2 _ _ k) ?_
    simp only [if_pos (show (m : Int) > 0 by omega), Option.bind_some, t1, t2, str_digitM _ hm10, hsz, hsz1, if_pos (show 1 + l.length ≤ 9223372036854775807 by omega)]
    rw [wrap_id (x := ((m / 10 : Nat) : Int)) (by omega) (by omega), str_app]
    by_cases h10 : m < 10
    · rw [show m / 10 = 0 by omega]
      refine Ev.step (fun k => laws_markText.l0.eq_2 _ _ k) ?_
      have hs2 : (⟨([UInt8.ofNat (48 + m % 10)] ++ l).toArray⟩ : ByteArray).size = l.length + 1 := by rw [size_mk]; simp
      simp only [if_neg (show ¬ ((0 : Nat) : Int) > 0 by omega), hs2, if_pos (show 1 + (l.length + 1) ≤ 9223372036854775807 by omega)]
      have ed : Lib.decDigits m = [UInt8.ofNat (48 + m % 10)] := by rw [Lib.decDigits, dif_pos h10, Nat.mod_eq_of_lt h10]
      rw [ed, show (⟨#[109]⟩ : ByteArray) = ⟨[(109 : UInt8)].toArray⟩ from rfl, str_app]
      exact Ev.now _
    · have ed : Lib.decDigits m = Lib.decDigits (m / 10) ++ [UInt8.ofNat (48 + m % 10)] := by rw [Lib.decDigits, dif_neg h10]
      have en : Lib.nDigits m = Lib.nDigits (m / 10) + 1 := by rw [Lib.nDigits, dif_neg h10]
      rw [ed, List.append_assoc]
      exact ih (m / 10) _ (by omega) (by omega) (by omega) (by simp only [List.length_append, List.length_cons, List.length_nil]; omega)
theorem mark_text (m : Nat) (h0 : m ≠ 0) (h : m ≤ 4611686018427387904) : Ev (fun k => laws_markText.f k (m : Int)) (mtx m) := by
  unfold laws_markText.f
  simp only [if_neg (show ¬ (m : Int) ≤ 0 by omega)]
  have := nDigits_le 19 m (by have : (10 : Nat) ^ (19 + 1) = 100000000000000000000 := by decide
                              omega)
  have hb := mark_loop m m [] (Nat.le_refl _) h0 h (by simp only [List.length_nil]; omega)
  rw [List.append_nil] at hb
  exact hb
def markTL (n : Nat) : List S51 := (List.range n).map fun j : Nat => ⟨mtx (1 + 2 * j), 1 + 2 * (j : Int) + 1⟩
theorem markTL_len (n : Nat) : (markTL n).length = n := by simp [markTL]
theorem markTL_at (n i : Nat) (h : i < n) : (markTL n)[i]'(by rw [markTL_len]; exact h) = ⟨mtx (1 + 2 * i), 1 + 2 * (i : Int) + 1⟩ := by simp [markTL]
theorem mark_toks_loop (n : Nat) (hn : n ≤ 1048576) : ∀ (d i : Nat) (x : List S51), i + d = n → x.length = n → x.take i = (markTL n).take i →
    Ev (fun k => laws_markTokenS.l0 k x ((1 + 2 * i : Nat) : Int) (i : Int)) (((1 + 2 * n : Nat) : Int), markTL n) := by
  intro d
  induction d with
  | zero =>
    intro i x hi hx ht
    refine Ev.step (fun k => laws_markTokenS.l0.eq_2 _ _ _ k) ?_
    simp only [if_neg (show ¬ (i : Int) < (x.length : Int) by omega)]
    rw [List.take_of_length_le (by omega), List.take_of_length_le (l := markTL n) (by rw [markTL_len]; omega)] at ht
    subst ht
    rw [show i = n by omega]
    exact Ev.now _
  | succ d ih =>
    intro i x hi hx ht
    refine Ev.step (fun k => laws_markTokenS.l0.eq_2 _ _ _ k) ?_
    simp only [if_pos (show (i : Int) < (x.length : Int) by omega)]
    refine Ev.bind (mark_text (1 + 2 * i) (by omega) (by omega)) ?_
    simp only [if_pos (show (0 : Int) ≤ (i : Int) by omega), Int.toNat_natCast, Option.bind_some, wrap_succ i (by omega), wrap_succ (1 + 2 * i) (by omega), wrap_succ (1 + 2 * i + 1) (by omega)]
    rw [rdiToken_lt (x.set i _) i (by simp; omega), List.getElem_set_self, List.set_set]
    refine ih (i + 1) (x.set i ⟨mtx (1 + 2 * i), ((1 + 2 * i + 1 : Nat) : Int)⟩) (by omega) (by simp; omega) ?_
    have h2 := set_take (markTL n) x i (by rw [markTL_len]; omega) (by rw [markTL_len]; omega) ht
    rw [markTL_at n i (by omega)] at h2
    rw [show ((1 + 2 * i + 1 : Nat) : Int) = 1 + 2 * (i : Int) + 1 by omega]
    exact h2
theorem mark_toks (l : List S51) (hl : l.length ≤ 1048576) : Ev (fun k => laws_markTokenS.f k l 1) (((1 + 2 * l.length : Nat) : Int), markTL l.length) := by
  unfold laws_markTokenS.f
  exact mark_toks_loop l.length hl l.length 0 l (by omega) rfl (by simp)
theorem held_toks_loop (n : Nat) (hn : n ≤ 1048576) : ∀ (d i : Nat), i + d = n → Ev (fun k => laws_heldTokenS.l0 k (markTL n) ((1 + 2 * i : Nat) : Int) (i : Int)) ((1 + 2 * n : Nat) : Int) := by
  intro d
  induction d with
  | zero =>
    intro i hi
    refine Ev.step (fun k => laws_heldTokenS.l0.eq_2 _ _ _ k) ?_
    simp only [if_neg (show ¬ (i : Int) < ((markTL n).length : Int) by rw [markTL_len]; omega)]
    rw [show i = n by omega]
    exact Ev.now _
  | succ d ih =>
    intro i hi
    have h3 : rd_T51 (markTL n) (i : Int) = ⟨mtx (1 + 2 * i), 1 + 2 * (i : Int) + 1⟩ := by
      rw [rdiToken_lt _ i (by rw [markTL_len]; omega)]
      exact markTL_at n i (by omega)
    refine Ev.step (fun k => laws_heldTokenS.l0.eq_2 _ _ _ k) ?_
    simp only [if_pos (show (i : Int) < ((markTL n).length : Int) by rw [markTL_len]; omega), if_pos (show (0 : Int) ≤ (i : Int) by omega)]
    refine Ev.bind (mark_text (1 + 2 * i) (by omega) (by omega)) ?_
    simp only [h3, if_true, wrap_succ i (by omega), wrap_succ (1 + 2 * i) (by omega), wrap_succ (1 + 2 * i + 1) (by omega)]
    simp only [if_pos (show 1 + 2 * (i : Int) + 1 = ((1 + 2 * i + 1 : Nat) : Int) by omega)]
    exact ih (i + 1) (by omega)
theorem held_toks (n : Nat) (hn : n ≤ 1048576) : Ev (fun k => laws_heldTokenS.f k (markTL n) 1) ((1 + 2 * n : Nat) : Int) := by
  unfold laws_heldTokenS.f
  exact held_toks_loop n hn n 0 (by omega)
def repB (s : S51) : Bool := decide (s.f0.toList = ([114, 101, 112, 101, 97, 116] : List UInt8))
def endB (s : S51) : Bool := decide (s.f0.toList = ([101, 110, 100] : List UInt8))
def cntB (l : List S51) (i : Nat) : Bool := !decide (i = 0) && (decide ((rd_T51 l ((i - 1 : Nat) : Int)).f0.toList = ([] : List UInt8)) && decide (0 ≤ (rd_T51 l ((i - 1 : Nat) : Int)).f1 ∧ (rd_T51 l ((i - 1 : Nat) : Int)).f1 ≤ 9))
def tokAt (l : List S51) (i : Nat) : Bool := tokenB (rd_T51 l (i : Int)).f0 (rd_T51 l (i : Int)).f1
theorem rd_size (l : List S51) (hs : ∀ x ∈ l, x.f0.size ≤ 1048576) (i : Nat) (hi : i < l.length) : (rd_T51 l (i : Int)).f0.size ≤ 1048577 := by
  rw [rdiToken_lt l i hi]
  have := hs l[i] (List.getElem_mem _)
  omega
theorem impl_tokens_loop (l : List S51) (hl : l.length ≤ 1048576) (hs : ∀ x ∈ l, x.f0.size ≤ 1048576) : ∀ (d i : Nat), i + d = l.length →
    Ev (fun k => impl_tokensOk.l0 k l (l.length : Int) (i : Int)) (allFrom (tokAt l) l.length i) := by
  intro d
  induction d with
  | zero =>
    intro i hi
    refine Ev.step (fun k => impl_tokensOk.l0.eq_2 _ _ _ k) ?_
    simp only [if_neg (show ¬ (i : Int) < (l.length : Int) by omega)]
    rw [show i = l.length by omega, all_end]
    exact Ev.now _
  | succ d ih =>
    intro i hi
    refine Ev.step (fun k => impl_tokensOk.l0.eq_2 _ _ _ k) ?_
    simp only [if_pos (show (i : Int) < (l.length : Int) by omega), if_pos (show (0 : Int) ≤ (i : Int) by omega)]
    rw [wrap_succ i (by omega), all_step _ _ _ (show i < l.length by omega)]
    refine Ev.bind (impl_token _ _ (rd_size l hs i (by omega))) ?_
    change Ev (fun k => if tokAt l i = true then _ else _) _
    cases tokAt l i with
    | false =>
      simp only [Bool.false_eq_true, if_false, Bool.false_and]
      exact Ev.now _
    | true =>
      simp only [if_true, Bool.true_and]
      exact ih (i + 1) (by omega)
theorem impl_tokens (l : List S51) (hl : l.length ≤ 1048576) (hs : ∀ x ∈ l, x.f0.size ≤ 1048576) : Ev (fun k => impl_tokensOk.f k l) (allFrom (tokAt l) l.length 0) := by
  unfold impl_tokensOk.f
  exact impl_tokens_loop l hl hs l.length 0 (by omega)
def boM (l : List S51) : Nat → Nat → Int → Bool
  | 0, _, d => d == 0
  | r + 1, i, d => if repB (rd_T51 l (i : Int)) = true then (if cntB l i = true then (if d + 1 > 3 then false else boM l r (i + 1) (d + 1)) else false)
      else if endB (rd_T51 l (i : Int)) = true then (if d - 1 < 0 then false else boM l r (i + 1) (d - 1)) else boM l r (i + 1) d
def bdM (l : List S51) : Nat → Nat → Int → Int → Int
  | 0, _, _, m => m
  | r + 1, i, d, m => if repB (rd_T51 l (i : Int)) = true then bdM l r (i + 1) (d + 1) (mx m (d + 1))
      else if endB (rd_T51 l (i : Int)) = true then bdM l r (i + 1) (d - 1) m else bdM l r (i + 1) d m
def okM (l : List S51) : Bool := decide (l.length ≤ 60) && (allFrom (tokAt l) l.length 0 && boM l l.length 0 0)
theorem wrap_pred (i : Nat) (h0 : 0 < i) (h : i < 4611686018427387904) : wrap64 ((i : Int) - 1) = ((i - 1 : Nat) : Int) := by
  rw [wrap_id (by omega) (by omega)]
  omega
theorem impl_bo_loop (l : List S51) (hl : l.length ≤ 1048576) : ∀ (r i : Nat) (d : Int), i + r = l.length → 0 ≤ d → d ≤ i →
    Ev (fun k => impl_BlocksOk.l0 k l d l (l.length : Int) (i : Int)) (boM l r i d) := by
  intro r
  induction r with
  | zero =>
    intro i d hi h0 h1
    refine Ev.step (fun k => impl_BlocksOk.l0.eq_2 _ _ _ _ _ k) ?_
    simp only [if_neg (show ¬ (i : Int) < (l.length : Int) by omega)]
    exact Ev.now _
  | succ r ih =>
    intro i d hi h0 h1
    refine Ev.step (fun k => impl_BlocksOk.l0.eq_2 _ _ _ _ _ k) ?_
    simp only [if_pos (show (i : Int) < (l.length : Int) by omega), if_pos (show (0 : Int) ≤ (i : Int) by omega)]
    rw [wrap_succ i (by omega), wrap_id (x := d - 1) (by omega) (by omega), boM]
    have hj (b : Bool) : Ev (fun k => impl_BlocksOk.j2 k l d l (l.length : Int) (i : Int) (!b)) (if b = true then (if d + 1 > 3 then false else boM l r (i + 1) (d + 1)) else false) := by
      refine Ev.step (fun k => impl_BlocksOk.j2.eq_2 _ _ _ _ _ _ k) ?_
      rw [wrap_succ i (by omega), wrap_id (x := d + 1) (by omega) (by omega)]
      cases b with
      | false =>
        simp only [Bool.not_false, Bool.false_eq_true, if_true, if_false]
        exact Ev.now _
      | true =>
        simp only [Bool.not_true, Bool.false_eq_true, if_true, if_false]
        by_cases h3 : d + 1 > 3
        · simp only [if_pos h3]
          exact Ev.now _
        · simp only [if_neg h3]
          exact ih (i + 1) (d + 1) (by omega) (by omega) (by omega)
    by_cases hr : (rd_T51 l (i : Int)).f0.toList = ([114, 101, 112, 101, 97, 116] : List UInt8)
    · simp only [if_pos hr, repB, decide_eq_true hr, if_true]
      by_cases hz : i = 0
      · subst hz
        simp only [if_pos (show ((0 : Nat) : Int) = 0 by omega)]
        exact hj false
      · rw [wrap_pred i (by omega) (by omega)]
        simp only [if_neg (show ¬ (i : Int) = 0 by omega), if_pos (show (0 : Int) ≤ ((i - 1 : Nat) : Int) by omega), if_pos (show ((i - 1 : Nat) : Int) < (l.length : Int) by omega)]
        by_cases hn : (rd_T51 l ((i - 1 : Nat) : Int)).f0.toList = ([] : List UInt8)
        · simp only [if_pos hn, impl_in, Option.bind_some]
          have e : cntB l i = decide (0 ≤ (rd_T51 l ((i - 1 : Nat) : Int)).f1 ∧ (rd_T51 l ((i - 1 : Nat) : Int)).f1 ≤ 9) := by
            unfold cntB
            rw [decide_eq_false hz, decide_eq_true hn, Bool.not_false, Bool.true_and, Bool.true_and]
          rw [e]
          exact hj _
        · simp only [if_neg hn]
          have e : cntB l i = false := by
            unfold cntB
            rw [decide_eq_false hn, Bool.false_and, Bool.and_false]
          rw [e]
          exact hj false
    · simp only [if_neg hr, repB, decide_eq_false hr, Bool.false_eq_true, if_false]
      by_cases he : (rd_T51 l (i : Int)).f0.toList = ([101, 110, 100] : List UInt8)
      · simp only [if_pos he, endB, decide_eq_true he, if_true]
        by_cases h3 : d - 1 < 0
        · simp only [if_pos h3]
          exact Ev.now _
        · simp only [if_neg h3]
          exact ih (i + 1) (d - 1) (by omega) (by omega) (by omega)
      · simp only [if_neg he, endB, decide_eq_false he, Bool.false_eq_true, if_false]
        exact ih (i + 1) d (by omega) (by omega) (by omega)
theorem impl_blocks (l : List S51) (hl : l.length ≤ 1048576) (hs : ∀ x ∈ l, x.f0.size ≤ 1048576) : Ev (fun k => impl_BlocksOk.f k l) (okM l) := by
  unfold impl_BlocksOk.f okM
  have hj (b : Bool) : Ev (fun k => impl_BlocksOk.j0 k l (!b)) (b && boM l l.length 0 0) := by
    refine Ev.step (fun k => impl_BlocksOk.j0.eq_2 _ _ k) ?_
    cases b with
    | false =>
      simp only [Bool.not_false, Bool.false_and, if_true]
      exact Ev.now _
    | true =>
      simp only [Bool.not_true, Bool.true_and, Bool.false_eq_true, if_false]
      exact impl_bo_loop l hl l.length 0 0 (by omega) (by omega) (by omega)
  by_cases h : (l.length : Int) > 60
  · simp only [if_pos h, decide_eq_false (show ¬ l.length ≤ 60 by omega), Bool.false_and]
    exact hj false
  · simp only [if_neg h, decide_eq_true (show l.length ≤ 60 by omega), Bool.true_and]
    refine Ev.bind (impl_tokens l hl hs) ?_
    exact hj _
def spM (l : List S51) : Nat → Nat → Int → Int → Int
  | 0, _, d, m => if d = 0 then (if m > 3 then -1 else m) else -1
  | r + 1, i, d, m => if (tokAt l i && decide (l.length ≤ 60)) = true then
      (if repB (rd_T51 l (i : Int)) = true then (if cntB l i = true then spM l r (i + 1) (d + 1) (mx m (d + 1)) else -1)
      else if endB (rd_T51 l (i : Int)) = true then (if d - 1 < 0 then -1 else spM l r (i + 1) (d - 1) m) else spM l r (i + 1) d m) else -1
theorem mx_ge (a b : Int) : a ≤ mx a b ∧ b ≤ mx a b ∧ (mx a b = a ∨ mx a b = b) := by
  unfold mx
  split <;> omega
theorem spec_bd_loop (l : List S51) (hl : l.length ≤ 1048576) (hs : ∀ x ∈ l, x.f0.size ≤ 1048576) : ∀ (r i : Nat) (d m : Int), i + r = l.length → 0 ≤ d → d ≤ i →
    Ev (fun k => spec_BlockDepth.l0 k l d m (i : Int)) (spM l r i d m) := by
  intro r
  induction r with
  | zero =>
    intro i d m hi h0 h1
    refine Ev.step (fun k => spec_BlockDepth.l0.eq_2 _ _ _ _ k) ?_
    simp only [if_neg (show ¬ (i : Int) < (l.length : Int) by omega), spM]
    by_cases h2 : d = 0
    · simp only [if_pos h2]
      by_cases h3 : m > 3
      · simp only [if_pos h3]
        exact Ev.now _
      · simp only [if_neg h3]
        exact Ev.now _
    · simp only [if_neg h2]
      exact Ev.now _
  | succ r ih =>
    intro i d m hi h0 h1
    refine Ev.step (fun k => spec_BlockDepth.l0.eq_2 _ _ _ _ k) ?_
    simp only [if_pos (show (i : Int) < (l.length : Int) by omega), if_pos (show (0 : Int) ≤ (i : Int) by omega)]
    refine Ev.bind (spec_token _ _ (rd_size l hs i (by omega))) ?_
    change Ev (fun k => if tokAt l i = true then _ else _) _
    rw [spM]
    have bad : Ev (fun k => spec_BlockDepth.j1 k l d m (i : Int) true) (-1) := by
      refine Ev.step (fun k => spec_BlockDepth.j1.eq_2 _ _ _ _ _ k) ?_
      simp only [if_true]
      exact Ev.now _
    cases tokAt l i with
    | false =>
      simp only [Bool.false_eq_true, if_false, Bool.false_and]
      exact bad
    | true =>
      simp only [if_true, Bool.true_and]
      by_cases h6 : (l.length : Int) > 60
      · rw [decide_eq_true h6, decide_eq_false (show ¬ l.length ≤ 60 by omega)]
        simp only [Bool.false_eq_true, if_false]
        exact bad
      · rw [decide_eq_false h6, decide_eq_true (show l.length ≤ 60 by omega)]
        simp only [if_true]
        refine Ev.step (fun k => spec_BlockDepth.j1.eq_2 _ _ _ _ _ k) ?_
        simp only [Bool.false_eq_true, if_false, if_pos (show (i : Int) < (l.length : Int) by omega), if_pos (show (0 : Int) ≤ (i : Int) by omega)]
        rw [wrap_succ i (by omega), wrap_id (x := d - 1) (by omega) (by omega), wrap_id (x := d + 1) (by omega) (by omega)]
        by_cases hr : (rd_T51 l (i : Int)).f0.toList = ([114, 101, 112, 101, 97, 116] : List UInt8)
        · simp only [if_pos hr, repB, decide_eq_true hr, if_true]
          by_cases hz : i = 0
          · subst hz
            simp only [if_pos (show ((0 : Nat) : Int) = 0 by omega)]
            exact Ev.now _
          · rw [wrap_pred i (by omega) (by omega)]
            simp only [if_neg (show ¬ (i : Int) = 0 by omega), if_pos (show (0 : Int) ≤ ((i - 1 : Nat) : Int) by omega), if_pos (show ((i - 1 : Nat) : Int) < (l.length : Int) by omega)]
            by_cases hn : (rd_T51 l ((i - 1 : Nat) : Int)).f0.toList = ([] : List UInt8)
            · simp only [if_pos hn, spec_in, Option.bind_some]
              have e : cntB l i = decide (0 ≤ (rd_T51 l ((i - 1 : Nat) : Int)).f1 ∧ (rd_T51 l ((i - 1 : Nat) : Int)).f1 ≤ 9) := by
                unfold cntB
                rw [decide_eq_false hz, decide_eq_true hn, Bool.not_false, Bool.true_and, Bool.true_and]
              rw [e]
              cases decide (0 ≤ (rd_T51 l ((i - 1 : Nat) : Int)).f1 ∧ (rd_T51 l ((i - 1 : Nat) : Int)).f1 ≤ 9) with
              | false =>
                simp only [Bool.false_eq_true, if_false]
                exact Ev.now _
              | true =>
                simp only [if_true]
                exact ih (i + 1) (d + 1) _ (by omega) (by omega) (by omega)
            · simp only [if_neg hn]
              have e : cntB l i = false := by
                unfold cntB
                rw [decide_eq_false hn, Bool.false_and, Bool.and_false]
              rw [e]
              simp only [Bool.false_eq_true, if_false]
              exact Ev.now _
        · simp only [if_neg hr, repB, decide_eq_false hr, Bool.false_eq_true, if_false]
          by_cases he : (rd_T51 l (i : Int)).f0.toList = ([101, 110, 100] : List UInt8)
          · simp only [if_pos he, endB, decide_eq_true he, if_true]
            by_cases h3 : d - 1 < 0
            · simp only [if_pos h3]
              exact Ev.now _
            · simp only [if_neg h3]
              exact ih (i + 1) (d - 1) m (by omega) (by omega) (by omega)
          · simp only [if_neg he, endB, decide_eq_false he, Bool.false_eq_true, if_false]
            exact ih (i + 1) d m (by omega) (by omega) (by omega)
theorem bd_ge (l : List S51) : ∀ (r i : Nat) (d m : Int), m ≤ bdM l r i d m := by
  intro r
  induction r with
  | zero => intro i d m; exact Int.le_refl _
  | succ r ih =>
    intro i d m
    rw [bdM]
    split
    · have := ih (i + 1) (d + 1) (mx m (d + 1))
      have := (mx_ge m (d + 1)).1
      omega
    · split
      · exact ih _ _ _
      · exact ih _ _ _
theorem sp_high (l : List S51) : ∀ (r i : Nat) (d m : Int), 3 < m → spM l r i d m = -1 := by
  intro r
  induction r with
  | zero =>
    intro i d m h
    rw [spM, if_pos h]
    split <;> rfl
  | succ r ih =>
    intro i d m h
    have h1 := (mx_ge m (d + 1)).1
    rw [spM]
    repeat' split
    all_goals first | rfl | exact ih _ _ _ (by omega)
theorem sp_is (l : List S51) (h6 : l.length ≤ 60) : ∀ (r i : Nat) (d m : Int), i + r = l.length → m ≤ 3 →
    spM l r i d m = if (allFrom (tokAt l) l.length i && boM l r i d) = true then bdM l r i d m else -1 := by
  intro r
  induction r with
  | zero =>
    intro i d m hi h
    rw [spM, boM, bdM, show i = l.length by omega, all_end, Bool.true_and]
    by_cases h2 : d = 0
    · subst h2
      simp [show ¬ m > 3 by omega]
    · simp [h2]
  | succ r ih =>
    intro i d m hi h
    rw [spM, boM, bdM, all_step _ _ _ (show i < l.length by omega), decide_eq_true h6, Bool.and_true]
    cases tokAt l i with
    | false => simp
    | true =>
      simp only [if_true, Bool.true_and]
      cases repB (rd_T51 l (i : Int)) with
      | true =>
        simp only [if_true]
        cases cntB l i with
        | false => simp
        | true =>
          simp only [if_true]
          have hg := mx_ge m (d + 1)
          by_cases h3 : d + 1 > 3
          · rw [sp_high l _ _ _ _ (by omega), if_pos h3]
            simp
          · rw [if_neg h3]
            exact ih (i + 1) (d + 1) _ (by omega) (by omega)
      | false =>
        simp only [Bool.false_eq_true, if_false]
        cases endB (rd_T51 l (i : Int)) with
        | true =>
          simp only [if_true]
          by_cases h3 : d - 1 < 0
          · simp [h3]
          · simp only [if_neg h3]
            exact ih (i + 1) (d - 1) m (by omega) h
        | false =>
          simp only [Bool.false_eq_true, if_false]
          exact ih (i + 1) d m (by omega) h
def depthM (l : List S51) : Int := if okM l = true then bdM l l.length 0 0 0 else -1
theorem spec_depth (l : List S51) (hl : l.length ≤ 1048576) (hs : ∀ x ∈ l, x.f0.size ≤ 1048576) : Ev (fun k => spec_BlockDepth.f k l) (depthM l) := by
  unfold spec_BlockDepth.f
  have h := spec_bd_loop l hl hs l.length 0 0 0 (by omega) (by omega) (by omega)
  have e : spM l l.length 0 0 0 = depthM l := by
    unfold depthM okM
    by_cases h6 : l.length ≤ 60
    · rw [sp_is l h6 l.length 0 0 0 (by omega) (by omega), decide_eq_true h6, Bool.true_and]
    · rw [decide_eq_false h6, Bool.false_and, if_neg (by decide)]
      generalize hn : l.length = n at *
      cases n with
      | zero => omega
      | succ n =>
        rw [spM, hn, decide_eq_false h6, Bool.and_false, if_neg (by decide)]
  rw [e] at h
  exact h
theorem spec_blocks (l : List S51) (hl : l.length ≤ 1048576) (hs : ∀ x ∈ l, x.f0.size ≤ 1048576) : Ev (fun k => spec_BlocksOk.f k l) (okM l) := by
  unfold spec_BlocksOk.f
  refine Ev.bind (spec_depth l hl hs) ?_
  have e : decide (depthM l ≥ 0) = okM l := by
    unfold depthM
    have := bd_ge l l.length 0 0 0
    cases okM l with
    | true => simp; omega
    | false => simp
  rw [e]
  exact Ev.now _
/-- Blocks, well put together, of depth d at most, and what they flatten to. -/
inductive Sq : Nat → List S51 → List S51 → Prop where
  | nil (d : Nat) : Sq d [] []
  | tok (d : Nat) (t : S51) (r f : List S51) (h1 : repB t = false) (h2 : endB t = false) (h3 : ∀ u v, r = u :: v → repB u = false) (h4 : Sq d r f) : Sq d (t :: r) (t :: f)
  | blk (d : Nat) (c R E : S51) (b r fb fr : List S51) (h0 : 0 ≤ c.f1) (h9 : c.f1 ≤ 9) (hc : c.f0.toList = ([] : List UInt8)) (hR : repB R = true) (hE : endB E = true) (h1 : Sq d b fb) (h2 : Sq (d + 1) r fr) : Sq (d + 1) (c :: R :: (b ++ E :: r)) ((List.replicate c.f1.toNat fb).flatten ++ fr)
theorem rep_not_end (t : S51) (h : repB t = true) : endB t = false := by
  unfold repB at h
  unfold endB
  rw [of_decide_eq_true h]
  decide
theorem end_not_rep (t : S51) (h : endB t = true) : repB t = false := by
  unfold endB at h
  unfold repB
  rw [of_decide_eq_true h]
  decide
theorem num_plain (c : S51) (h : c.f0.toList = ([] : List UInt8)) : repB c = false ∧ endB c = false := by
  unfold repB endB
  rw [h]
  exact ⟨by decide, by decide⟩
theorem flat_rep (n : Nat) (f : List S51) : ((List.replicate n f).flatten).length = n * f.length := by
  rw [List.length_flatten, List.map_replicate, List.sum_replicate_nat]
theorem sq_len : ∀ {d : Nat} {s f : List S51}, Sq d s f → f.length ≤ s.length * 9 ^ d := by
  intro d s f h
  induction h with
  | nil d => simp
  | tok d t r f h1 h2 h3 h4 ih =>
    simp only [List.length_cons]
    have : 1 ≤ 9 ^ d := Nat.one_le_pow _ _ (by omega)
    rw [Nat.add_mul]
    omega
  | blk d c R E b r fb fr h0 h9 hc hR hE h1 h2 ih1 ih2 =>
    rw [List.length_append, flat_rep]
    simp only [List.length_cons, List.length_append]
    have hn : c.f1.toNat ≤ 9 := by omega
    have e1 : c.f1.toNat * fb.length ≤ b.length * 9 ^ (d + 1) := by
      calc c.f1.toNat * fb.length ≤ 9 * (b.length * 9 ^ d) := Nat.mul_le_mul hn ih1
        _ = b.length * 9 ^ (d + 1) := by rw [Nat.pow_succ, Nat.mul_left_comm, Nat.mul_comm 9]
    have e2 : (b.length + (r.length + 1) + 1 + 1) * 9 ^ (d + 1) = b.length * 9 ^ (d + 1) + r.length * 9 ^ (d + 1) + 3 * 9 ^ (d + 1) := by
      rw [show b.length + (r.length + 1) + 1 + 1 = b.length + r.length + 3 by omega, Nat.add_mul, Nat.add_mul]
    omega
theorem rd_mid (pre r : List S51) (t : S51) : rd_T51 (pre ++ t :: r) (pre.length : Int) = t := by
  rw [rdiToken_lt _ _ (by rw [List.length_append, List.length_cons]; omega), List.getElem_append_right (Nat.le_refl _)]
  simp
theorem rep_of (t : S51) : repB t = true ↔ t.f0.toList = ([114, 101, 112, 101, 97, 116] : List UInt8) := by
  unfold repB
  exact decide_eq_true_iff
theorem end_of (t : S51) : endB t = true ↔ t.f0.toList = ([101, 110, 100] : List UInt8) := by
  unfold endB
  exact decide_eq_true_iff
/-- One repetition less. -/
theorem rep_succ (n : Nat) (f out : List S51) : out ++ f ++ (List.replicate n f).flatten = out ++ (List.replicate (n + 1) f).flatten := by
  rw [List.replicate_succ, List.flatten_cons, List.append_assoc]
/-- There is room for a block and what follows it. -/
theorem sq_room (d : Nat) (c : S51) (b r fb out : List S51) (h9 : c.f1 ≤ 9) (hfb : fb.length ≤ b.length * 9 ^ d) (ho : out.length + (b.length + (r.length + 1) + 1 + 1) * 9 ^ (d + 1) ≤ 1000000) :
    (out ++ (List.replicate c.f1.toNat fb).flatten).length + r.length * 9 ^ (d + 1) ≤ 1000000 ∧ out.length + c.f1.toNat * fb.length ≤ 1000000 ∧ ([] : List S51).length + b.length * 9 ^ d ≤ 1000000 ∧ fb.length ≤ 1000000 ∧ out.length ≤ 1000000 := by
  have hm : c.f1.toNat * fb.length ≤ 9 * (b.length * 9 ^ d) := Nat.mul_le_mul (by omega) hfb
  have e2 : (b.length + (r.length + 1) + 1 + 1) * 9 ^ (d + 1) = 9 * (b.length * 9 ^ d) + r.length * 9 ^ (d + 1) + 3 * 9 ^ (d + 1) := by
    rw [show b.length + (r.length + 1) + 1 + 1 = b.length + r.length + 3 by omega, Nat.add_mul, Nat.add_mul]
    congr 2
    rw [Nat.pow_succ, Nat.mul_comm (9 ^ d) 9, Nat.mul_left_comm]
  rw [e2] at ho
  rw [List.length_append, flat_rep, List.length_nil]
  generalize c.f1.toNat * fb.length = M at *
  generalize b.length * 9 ^ d = B at *
  generalize r.length * 9 ^ (d + 1) = C at *
  generalize 3 * 9 ^ (d + 1) = D at *
  omega
/-- The reading of blocks by depth, over lists: p is the token before. -/
def cntL : Option S51 → Bool
  | none => false
  | some q => decide (q.f0.toList = ([] : List UInt8)) && decide (0 ≤ q.f1 ∧ q.f1 ≤ 9)
def boL : Option S51 → List S51 → Int → Bool
  | _, [], d => d == 0
  | p, t :: r, d => if repB t = true then (if cntL p = true then (if d + 1 > 3 then false else boL (some t) r (d + 1)) else false)
      else if endB t = true then (if d - 1 < 0 then false else boL (some t) r (d - 1)) else boL (some t) r d
theorem bo_lists (l : List S51) : ∀ (r i : Nat) (d : Int), i + r = l.length → boM l r i d = boL (if i = 0 then none else l[i - 1]?) (l.drop i) d := by
  intro r
  induction r with
  | zero =>
    intro i d hi
    rw [List.drop_of_length_le (by omega)]
    rfl
  | succ r ih =>
    intro i d hi
    have hil : i < l.length := by omega
    rw [List.drop_eq_getElem_cons hil, boM, boL, rdiToken_lt l i hil]
    have hc : cntB l i = cntL (if i = 0 then none else l[i - 1]?) := by
      unfold cntB
      by_cases h0 : i = 0
      · rw [if_pos h0, h0]
        rfl
      · rw [if_neg h0, rdiToken_lt l (i - 1) (by omega), List.getElem?_eq_getElem (by omega), decide_eq_false h0]
        rfl
    have hn : (if i + 1 = 0 then none else l[i + 1 - 1]?) = some l[i] := by
      rw [if_neg (by omega), show i + 1 - 1 = i by omega, List.getElem?_eq_getElem hil]
    rw [hc, ih (i + 1) (d + 1) (by omega), ih (i + 1) (d - 1) (by omega), ih (i + 1) d (by omega), hn]
theorem bo_parse : ∀ (n : Nat) (l : List S51) (p : Option S51) (d : Nat), l.length ≤ n → d ≤ 3 → boL p l (d : Int) = true → (∀ t r, l = t :: r → repB t = true → cntL p = false) →
    ∃ s f rest, l = s ++ rest ∧ Sq (3 - d) s f ∧ (d = 0 → rest = []) ∧ (d ≠ 0 → ∃ E r', rest = E :: r' ∧ endB E = true ∧ boL (some E) r' ((d : Int) - 1) = true) := by
  intro n
  induction n with
  | zero =>
    intro l p d hl hd hb hp
    obtain rfl : l = [] := List.length_eq_zero_iff.1 (by omega)
    have h0 : d = 0 := by
      have : ((d : Int) == 0) = true := hb
      rw [beq_iff_eq] at this
      omega
    exact ⟨[], [], [], rfl, Sq.nil _, fun _ => rfl, fun h => absurd h0 h⟩
  | succ n ih =>
    intro l p d hl hd hb hp
    cases l with
    | nil =>
      have h0 : d = 0 := by
        have : ((d : Int) == 0) = true := hb
        rw [beq_iff_eq] at this
        omega
      exact ⟨[], [], [], rfl, Sq.nil _, fun _ => rfl, fun h => absurd h0 h⟩
    | cons t r =>
      rw [boL] at hb
      by_cases hr : repB t = true
      · rw [if_pos hr, hp t r rfl hr, if_neg (by decide)] at hb
        cases hb
      · rw [if_neg hr] at hb
        have hrf : repB t = false := by simpa using hr
        by_cases he : endB t = true
        · rw [if_pos he] at hb
          by_cases hd1 : (d : Int) - 1 < 0
          · rw [if_pos hd1] at hb
            cases hb
          · rw [if_neg hd1] at hb
            exact ⟨[], [], t :: r, rfl, Sq.nil _, fun h => by omega, fun _ => ⟨t, r, rfl, he, hb⟩⟩
        · rw [if_neg he] at hb
          have hef : endB t = false := by simpa using he
          cases r with
          | nil =>
            obtain ⟨s, f, rest, e, hs, h0, h1⟩ := ih [] (some t) d (by simp) hd hb (fun _ _ h => by cases h)
            have es : s = [] := (List.append_eq_nil_iff.1 e.symm).1
            subst es
            have er : rest = [] := (List.append_eq_nil_iff.1 e.symm).2
            subst er
            exact ⟨[t], t :: f, [], rfl, Sq.tok _ t [] f hrf hef (fun _ _ h => by cases h) hs, h0, h1⟩
          | cons u r =>
            by_cases hu : repB u = true
            · rw [boL, if_pos hu] at hb
              by_cases hc : cntL (some t) = true
              · rw [if_pos hc] at hb
                by_cases h3 : (d : Int) + 1 > 3
                · rw [if_pos h3] at hb
                  cases hb
                · rw [if_neg h3] at hb
                  unfold cntL at hc
                  rw [Bool.and_eq_true] at hc
                  have hc1 := of_decide_eq_true hc.1
                  have hc2 := of_decide_eq_true hc.2
                  have hnot : ∀ (E : S51), (repB E = true ∨ endB E = true) → cntL (some E) = false := by
                    intro E hE
                    show (decide (E.f0.toList = ([] : List UInt8)) && decide (0 ≤ E.f1 ∧ E.f1 ≤ 9)) = false
                    rw [decide_eq_false, Bool.false_and]
                    intro hn
                    have := num_plain E hn
                    rcases hE with h | h
                    · rw [this.1] at h; cases h
                    · rw [this.2] at h; cases h
                  have hb2 : boL (some u) r ((d + 1 : Nat) : Int) = true := by
                    rw [show ((d + 1 : Nat) : Int) = (d : Int) + 1 by omega]
                    exact hb
                  simp only [List.length_cons] at hl
                  obtain ⟨s1, f1, rest1, e1, hs1, _, hr1⟩ := ih r (some u) (d + 1) (by omega) (by omega) hb2 (fun _ _ _ _ => hnot u (Or.inl hu))
                  obtain ⟨E, r2, er1, hE, hb3⟩ := hr1 (by omega)
                  rw [show ((d + 1 : Nat) : Int) - 1 = (d : Int) by omega] at hb3
                  have hr2 : r2.length ≤ n := by
                    have := congrArg List.length e1
                    rw [er1, List.length_append, List.length_cons] at this
                    omega
                  obtain ⟨s2, f2, rest2, e2, hs2, h0, h1⟩ := ih r2 (some E) d hr2 hd hb3 (fun _ _ _ _ => hnot E (Or.inr hE))
                  refine ⟨t :: u :: (s1 ++ E :: s2), (List.replicate t.f1.toNat f1).flatten ++ f2, rest2, ?_, ?_, h0, h1⟩
                  · rw [e1, er1, e2]
                    simp
                  · obtain ⟨m, hm⟩ : ∃ m, 3 - d = m + 1 := ⟨2 - d, by omega⟩
                    rw [hm] at hs2 ⊢
                    rw [show 3 - (d + 1) = m by omega] at hs1
                    exact Sq.blk m t u E s1 s2 f1 f2 hc2.1 hc2.2 hc1 hu hE hs1 hs2
              · rw [if_neg hc] at hb
                cases hb
            · have huf : repB u = false := by simpa using hu
              obtain ⟨s, f, rest, e, hs, h0, h1⟩ := ih (u :: r) (some t) d (by simp only [List.length_cons] at hl ⊢; omega) hd hb (fun t' r' h ht => by
                have := (List.cons.inj h).1
                rw [← this, huf] at ht
                cases ht)
              refine ⟨t :: s, t :: f, rest, by rw [e]; rfl, Sq.tok _ t s f hrf hef (fun u' v' hs' => ?_) hs, h0, h1⟩
              rw [hs'] at e
              have := (List.cons.inj e).1
              rw [← this]
              exact huf
/-- Valid blocks are well put together. -/
theorem ok_sq (l : List S51) (h : okM l = true) : l.length ≤ 60 ∧ ∃ f, Sq 3 l f := by
  unfold okM at h
  rw [Bool.and_eq_true, Bool.and_eq_true] at h
  refine ⟨of_decide_eq_true h.1, ?_⟩
  have hb := h.2.2
  rw [bo_lists l l.length 0 0 (by omega)] at hb
  simp only [if_true, List.drop_zero] at hb
  obtain ⟨s, f, rest, e, hs, h0, _⟩ := bo_parse l.length l none 0 (Nat.le_refl _) (by omega) hb (fun _ _ _ _ => rfl)
  rw [h0 rfl, List.append_nil] at e
  subst e
  exact ⟨f, hs⟩
set_option maxHeartbeats 4000000 in
theorem end_pass : ∀ {d : Nat} {s f : List S51}, Sq d s f → ∀ (L pre post : List S51) (m : Nat) (x : Int), L = pre ++ (s ++ post) → L.length ≤ 1000 → 1 ≤ m → m ≤ 1000 - s.length →
    Ev (fun k => spec_l06End.l0 k L ((pre.length + s.length : Nat) : Int) (m : Int)) x → Ev (fun k => spec_l06End.l0 k L (pre.length : Int) (m : Int)) x := by
  intro d s f h
  induction h with
  | nil d => intro L pre post m x _ _ _ _ h; exact h
  | tok d t r f h1 h2 h3 h4 ih =>
    intro L pre post m x hL hl hm hm2 h
    simp only [List.length_cons] at hm2 h
    have hlen := congrArg List.length hL
    simp only [List.length_append, List.length_cons] at hlen
    have hrd : rd_T51 L (pre.length : Int) = t := by rw [hL]; exact rd_mid pre _ t
    refine Ev.step (fun k => spec_l06End.l0.eq_2 _ _ _ k) ?_
    simp only [if_pos (show (pre.length : Int) < (L.length : Int) by omega), if_pos (show (0 : Int) ≤ (pre.length : Int) by omega), hrd, ← rep_of, ← end_of, h1, h2, Bool.false_eq_true, if_false, if_neg (show ¬ (m : Int) = 0 by omega), wrap_succ pre.length (by omega)]
    have := ih L (pre ++ [t]) post m x (by rw [hL]; simp) hl hm (by omega) (by
      rw [List.length_append, List.length_singleton, show pre.length + 1 + r.length = pre.length + (r.length + 1) by omega]
      exact h)
    rw [List.length_append, List.length_singleton] at this
    exact this
  | blk d c R E b r fb fr h0 h9 hc hR hE h1 h2 ih1 ih2 =>
    intro L pre post m x hL hl hm hm2 h
    simp only [List.length_cons, List.length_append] at hm2 h
    have hlen := congrArg List.length hL
    simp only [List.length_append, List.length_cons] at hlen
    have hcp := num_plain c hc
    have hL1 : L = pre ++ c :: (R :: (b ++ E :: r) ++ post) := by rw [hL]; simp
    have hL2 : L = (pre ++ [c]) ++ R :: ((b ++ E :: r) ++ post) := by rw [hL]; simp
    have hL3 : L = (pre ++ [c, R]) ++ (b ++ (E :: r ++ post)) := by rw [hL]; simp
    have hL4 : L = (pre ++ c :: R :: b) ++ E :: (r ++ post) := by rw [hL]; simp
    have hL5 : L = (pre ++ c :: R :: (b ++ [E])) ++ (r ++ post) := by rw [hL]; simp
    have r1 : rd_T51 L (pre.length : Int) = c := by rw [hL1]; exact rd_mid pre _ c
    have r2 : rd_T51 L ((pre.length + 1 : Nat) : Int) = R := by
      have := rd_mid (pre ++ [c]) ((b ++ E :: r) ++ post) R
      rw [← hL2, List.length_append, List.length_singleton] at this
      exact this
    have r4 : rd_T51 L ((pre.length + 2 + b.length : Nat) : Int) = E := by
      have := rd_mid (pre ++ c :: R :: b) (r ++ post) E
      rw [← hL4, List.length_append, List.length_cons, List.length_cons, show pre.length + (b.length + 1 + 1) = pre.length + 2 + b.length by omega] at this
      exact this
    refine Ev.step (fun k => spec_l06End.l0.eq_2 _ _ _ k) ?_
    simp only [if_pos (show (pre.length : Int) < (L.length : Int) by omega), if_pos (show (0 : Int) ≤ (pre.length : Int) by omega), r1, ← rep_of, ← end_of, hcp.1, hcp.2, Bool.false_eq_true, if_false, if_neg (show ¬ (m : Int) = 0 by omega), wrap_succ pre.length (by omega)]
    refine Ev.step (fun k => spec_l06End.l0.eq_2 _ _ _ k) ?_
    simp only [if_pos (show ((pre.length + 1 : Nat) : Int) < (L.length : Int) by omega), if_pos (show (0 : Int) ≤ ((pre.length + 1 : Nat) : Int) by omega), r2, ← rep_of, hR, if_true, wrap_succ m (by omega), if_neg (show ¬ ((m + 1 : Nat) : Int) = 0 by omega), wrap_succ (pre.length + 1) (by omega)]
    have hb := ih1 L (pre ++ [c, R]) (E :: r ++ post) (m + 1) x hL3 hl (by omega) (by omega) (by
      rw [List.length_append, show [c, R].length = 2 from rfl]
      refine Ev.step (fun k => spec_l06End.l0.eq_2 _ _ _ k) ?_
      have hw : wrap64 (((m + 1 : Nat) : Int) - 1) = (m : Int) := by rw [wrap_id (by omega) (by omega)]; omega
      simp only [if_pos (show ((pre.length + 2 + b.length : Nat) : Int) < (L.length : Int) by omega), if_pos (show (0 : Int) ≤ ((pre.length + 2 + b.length : Nat) : Int) by omega), r4, ← rep_of, ← end_of, end_not_rep E hE, hE, Bool.false_eq_true, if_false, if_true, hw, if_neg (show ¬ (m : Int) = 0 by omega), wrap_succ (pre.length + 2 + b.length) (by omega)]
      have hr := ih2 L (pre ++ c :: R :: (b ++ [E])) post m x hL5 hl hm (by omega) (by
        simp only [List.length_append, List.length_cons, List.length_nil]
        rw [show pre.length + (b.length + (0 + 1) + 1 + 1) + r.length = pre.length + (b.length + (r.length + 1) + 1 + 1) by omega]
        exact h)
      simp only [List.length_append, List.length_cons, List.length_nil] at hr
      rw [show pre.length + (b.length + (0 + 1) + 1 + 1) = pre.length + 2 + b.length + 1 by omega] at hr
      exact hr)
    rw [List.length_append, show [c, R].length = 2 from rfl] at hb
    exact hb
set_option maxHeartbeats 4000000 in
theorem end_find (d : Nat) (c R E : S51) (b r fb pre : List S51) (hR : repB R = true) (hE : endB E = true) (hb : Sq d b fb) (hl : (pre ++ c :: R :: (b ++ E :: r)).length ≤ 1000) :
    Ev (fun k => spec_l06End.f k (pre ++ c :: R :: (b ++ E :: r)) ((pre.length + 1 : Nat) : Int)) ((pre.length + 2 + b.length : Nat) : Int) := by
  have hlen : (pre ++ c :: R :: (b ++ E :: r)).length = pre.length + (b.length + (r.length + 1) + 1 + 1) := by simp only [List.length_append, List.length_cons]
  generalize hL : pre ++ c :: R :: (b ++ E :: r) = L at *
  have r2 : rd_T51 L ((pre.length + 1 : Nat) : Int) = R := by
    have := rd_mid (pre ++ [c]) (b ++ E :: r) R
    rw [List.length_append, List.length_singleton] at this
    rw [← hL]
    simpa using this
  have r4 : rd_T51 L ((pre.length + 2 + b.length : Nat) : Int) = E := by
    have := rd_mid (pre ++ c :: R :: b) r E
    rw [List.length_append, List.length_cons, List.length_cons, show pre.length + (b.length + 1 + 1) = pre.length + 2 + b.length by omega] at this
    rw [← hL]
    simpa using this
  unfold spec_l06End.f
  refine Ev.step (fun k => spec_l06End.l0.eq_2 _ _ _ k) ?_
  have hw1 : wrap64 ((0 : Int) + 1) = ((1 : Nat) : Int) := by unfold wrap64; omega
  simp only [if_pos (show ((pre.length + 1 : Nat) : Int) < (L.length : Int) by omega), if_pos (show (0 : Int) ≤ ((pre.length + 1 : Nat) : Int) by omega), r2, ← rep_of, hR, if_true, hw1, if_neg (show ¬ ((1 : Nat) : Int) = 0 by omega), wrap_succ (pre.length + 1) (by omega)]
  have := end_pass hb L (pre ++ [c, R]) (E :: r) 1 ((pre.length + 2 + b.length : Nat) : Int) (by rw [← hL]; simp) hl (by omega) (by omega) (by
    rw [List.length_append, show [c, R].length = 2 from rfl]
    refine Ev.step (fun k => spec_l06End.l0.eq_2 _ _ _ k) ?_
    have hw : wrap64 (((1 : Nat) : Int) - 1) = 0 := by unfold wrap64; omega
    simp only [if_pos (show ((pre.length + 2 + b.length : Nat) : Int) < (L.length : Int) by omega), if_pos (show (0 : Int) ≤ ((pre.length + 2 + b.length : Nat) : Int) by omega), r4, ← rep_of, ← end_of, end_not_rep E hE, hE, Bool.false_eq_true, if_false, if_true, hw]
    exact Ev.now _)
  rw [List.length_append, show [c, R].length = 2 from rfl] at this
  exact this
theorem spec_reps (L : List S51) (i e : Nat) (fb : List S51) (hi : i < L.length) (hl : L.length ≤ 1000) (n : Nat) (hn : (rd_T51 L (i : Int)).f1 = (n : Int)) (hn9 : n ≤ 9) (x : List S51) (hf : fb.length ≤ 1000000) : ∀ (d j : Nat) (out : List S51), j + d = n → out.length + d * fb.length ≤ 1000000 →
    Ev (fun k => spec_l06Flat.l0 k L (out ++ (List.replicate d fb).flatten) (wrap64 ((e : Int) + 1))) x → Ev (fun k => spec_l06Flat.l1 k L out (i : Int) (e : Int) fb (j : Int)) x := by
  intro d
  induction d with
  | zero =>
    intro j out hj ho h
    refine Ev.step (fun k => spec_l06Flat.l1.eq_2 _ _ _ _ _ _ k) ?_
    simp only [if_pos (show (0 : Int) ≤ (i : Int) by omega), if_pos (show (i : Int) < (L.length : Int) by omega), hn, if_neg (show ¬ (j : Int) < (n : Int) by omega)]
    simpa using h
  | succ d ih =>
    intro j out hj ho h
    rw [Nat.add_mul] at ho
    refine Ev.step (fun k => spec_l06Flat.l1.eq_2 _ _ _ _ _ _ k) ?_
    simp only [if_pos (show (0 : Int) ≤ (i : Int) by omega), if_pos (show (i : Int) < (L.length : Int) by omega), hn, if_pos (show (j : Int) < (n : Int) by omega), if_pos (show out.length + fb.length < 5864062014805 by omega), wrap_succ j (by omega)]
    refine ih (j + 1) (out ++ fb) (by omega) (by rw [List.length_append]; omega) ?_
    rw [rep_succ]
    exact h
set_option maxHeartbeats 4000000 in
theorem spec_flat_at : ∀ {d : Nat} {s f : List S51}, Sq d s f → ∀ (pre out : List S51), pre.length + s.length ≤ 1000 → out.length + s.length * 9 ^ d ≤ 1000000 →
    Ev (fun k => spec_l06Flat.l0 k (pre ++ s) out (pre.length : Int)) (out ++ f) := by
  intro d s f h
  induction h with
  | nil d =>
    intro pre out hl ho
    refine Ev.step (fun k => spec_l06Flat.l0.eq_2 _ _ _ k) ?_
    simp only [List.append_nil, if_neg (show ¬ (pre.length : Int) < (pre.length : Int) by omega)]
    exact Ev.now _
  | tok d t r f h1 h2 h3 h4 ih =>
    intro pre out hl ho
    simp only [List.length_cons] at hl ho
    have hp : 1 ≤ 9 ^ d := Nat.one_le_pow _ _ (by omega)
    rw [Nat.add_mul] at ho
    have hrd := rd_mid pre r t
    have hlen : (pre ++ t :: r).length = pre.length + (r.length + 1) := by simp
    have next := ih (pre ++ [t]) (out ++ [t]) (by rw [List.length_append, List.length_singleton]; omega) (by rw [List.length_append, List.length_singleton]; omega)
    rw [List.length_append, List.length_singleton, List.append_assoc, List.append_assoc] at next
    simp only [List.singleton_append] at next
    have put : Ev (fun k => spec_l06Flat.j1 k (pre ++ t :: r) out (pre.length : Int) true) (out ++ t :: f) := by
      refine Ev.step (fun k => spec_l06Flat.j1.eq_2 _ _ _ _ k) ?_
      simp only [if_true, if_pos (show (0 : Int) ≤ (pre.length : Int) by omega), hlen, if_pos (show (pre.length : Int) < ((pre.length + (r.length + 1) : Nat) : Int) by omega), hrd, if_pos (show out.length < 5864062014805 by omega), wrap_succ pre.length (by omega)]
      exact next
    refine Ev.step (fun k => spec_l06Flat.l0.eq_2 _ _ _ k) ?_
    simp only [hlen, if_pos (show (pre.length : Int) < ((pre.length + (r.length + 1) : Nat) : Int) by omega), wrap_succ pre.length (by omega)]
    cases r with
    | nil =>
      simp only [List.length_nil, if_pos (show ((pre.length + 1 : Nat) : Int) ≥ ((pre.length + (0 + 1) : Nat) : Int) by omega)]
      exact put
    | cons u v =>
      have hu := h3 u v rfl
      have hru : rd_T51 (pre ++ t :: u :: v) ((pre.length + 1 : Nat) : Int) = u := by
        have := rd_mid (pre ++ [t]) v u
        rw [List.length_append, List.length_singleton] at this
        simpa using this
      simp only [List.length_cons, if_neg (show ¬ ((pre.length + 1 : Nat) : Int) ≥ ((pre.length + (v.length + 1 + 1) : Nat) : Int) by omega), if_pos (show (0 : Int) ≤ ((pre.length + 1 : Nat) : Int) by omega), if_pos (show ((pre.length + 1 : Nat) : Int) < ((pre.length + (v.length + 1 + 1) : Nat) : Int) by omega), hru]
      have e : (u.f0.toList != ([114, 101, 112, 101, 97, 116] : List UInt8)) = true := by
        rw [bne_iff_ne]
        intro he
        rw [(rep_of u).2 he] at hu
        cases hu
      rw [e]
      exact put
  | blk d c R E b r fb fr h0 h9 hc hR hE h1 h2 ih1 ih2 =>
    intro pre out hl ho
    have hlen : (pre ++ c :: R :: (b ++ E :: r)).length = pre.length + (b.length + (r.length + 1) + 1 + 1) := by simp only [List.length_append, List.length_cons]
    simp only [List.length_cons, List.length_append] at hl ho
    obtain ⟨p2, p3, p1, hfb, hol⟩ := sq_room d c b r fb out h9 (sq_len h1) ho
    have P1 := Aside0.mk p1
    have P2 := Aside0.mk p2
    have P3 := Aside0.mk p3
    clear ho p1 p2 p3
    have hend := end_find d c R E b r fb pre hR hE h1 (by rw [hlen]; omega)
    have r1 := rd_mid pre (R :: (b ++ E :: r)) c
    have r2 : rd_T51 (pre ++ c :: R :: (b ++ E :: r)) ((pre.length + 1 : Nat) : Int) = R := by
      have := rd_mid (pre ++ [c]) (b ++ E :: r) R
      rw [List.length_append, List.length_singleton] at this
      simpa using this
    have hbody : ((pre ++ c :: R :: (b ++ E :: r)).take (pre.length + 2 + b.length)).drop (pre.length + 2) = b := by
      have e : pre ++ c :: R :: (b ++ E :: r) = (pre ++ [c, R]) ++ (b ++ E :: r) := by simp
      have hl2 : (pre ++ [c, R]).length = pre.length + 2 := by simp
      rw [e, List.take_append, hl2, List.take_of_length_le (by omega), show pre.length + 2 + b.length - (pre.length + 2) = b.length by omega, List.take_left, ← hl2, List.drop_left]
    have next : Ev (fun k => spec_l06Flat.l0 k (pre ++ c :: R :: (b ++ E :: r)) (out ++ (List.replicate c.f1.toNat fb).flatten) (wrap64 (((pre.length + 2 + b.length : Nat) : Int) + 1))) (out ++ ((List.replicate c.f1.toNat fb).flatten ++ fr)) := by
      have := ih2 (pre ++ c :: R :: (b ++ [E])) (out ++ (List.replicate c.f1.toNat fb).flatten) (by simp only [List.length_append, List.length_cons, List.length_nil]; omega) P2.out
      rw [wrap_succ _ (by omega)]
      have e : pre ++ c :: R :: (b ++ [E]) ++ r = pre ++ c :: R :: (b ++ E :: r) := by simp
      have e3 : (pre ++ c :: R :: (b ++ [E])).length = pre.length + 2 + b.length + 1 := by simp only [List.length_append, List.length_cons, List.length_nil]; omega
      rw [e, e3, List.append_assoc] at this
      exact this
    have body : Ev (fun k => spec_l06Flat.f k b) fb := by
      refine Ev.step (fun k => spec_l06Flat.f.eq_2 _ k) ?_
      have := ih1 [] [] (by simp only [List.length_nil]; omega) P1.out
      exact this
    refine Ev.step (fun k => spec_l06Flat.l0.eq_2 _ _ _ k) ?_
    simp only [hlen, if_pos (show (pre.length : Int) < ((pre.length + (b.length + (r.length + 1) + 1 + 1) : Nat) : Int) by omega), wrap_succ pre.length (by omega), if_neg (show ¬ ((pre.length + 1 : Nat) : Int) ≥ ((pre.length + (b.length + (r.length + 1) + 1 + 1) : Nat) : Int) by omega), if_pos (show (0 : Int) ≤ ((pre.length + 1 : Nat) : Int) by omega), if_pos (show ((pre.length + 1 : Nat) : Int) < ((pre.length + (b.length + (r.length + 1) + 1 + 1) : Nat) : Int) by omega), r2]
    have eR : (R.f0.toList != ([114, 101, 112, 101, 97, 116] : List UInt8)) = false := by
      rw [(rep_of R).1 hR]
      decide
    rw [eR]
    refine Ev.step (fun k => spec_l06Flat.j1.eq_2 _ _ _ _ k) ?_
    simp only [Bool.false_eq_true, if_false, wrap_succ pre.length (by omega)]
    refine Ev.bind hend ?_
    have hw2 : wrap64 ((pre.length : Int) + 2) = ((pre.length + 2 : Nat) : Int) := by rw [wrap_id (by omega) (by omega)]; omega
    simp only [hw2, if_pos (show (0 : Int) ≤ ((pre.length + 2 : Nat) : Int) by omega), if_pos (show ((pre.length + 2 : Nat) : Int) ≤ ((pre.length + 2 + b.length : Nat) : Int) by omega), hlen, if_pos (show ((pre.length + 2 + b.length : Nat) : Int) ≤ ((pre.length + (b.length + (r.length + 1) + 1 + 1) : Nat) : Int) by omega), Int.toNat_natCast, hbody]
    refine Ev.bind body ?_
    exact spec_reps _ pre.length (pre.length + 2 + b.length) fb (by rw [hlen]; omega) (by rw [hlen]; omega) c.f1.toNat (by rw [r1]; omega) (by omega) _ hfb c.f1.toNat 0 out (by omega) P3.out next
theorem spec_flat (l f : List S51) (hl : l.length ≤ 60) (h : Sq 3 l f) : Ev (fun k => spec_l06Flat.f k l) f := by
  refine Ev.step (fun k => spec_l06Flat.f.eq_2 _ k) ?_
  have h9 : (9 : Nat) ^ 3 = 729 := by decide
  have := spec_flat_at h [] [] (by simp only [List.length_nil]; omega) (by simp only [List.length_nil, h9]; omega)
  exact this
theorem impl_reps (L : List S51) (e : Nat) (fb : List S51) (x : List S51 × Int) (hf : fb.length ≤ 1000000) : ∀ (n : Nat) (out : List S51), n ≤ 9 → out.length + n * fb.length ≤ 1000000 →
    Ev (fun k => impl_flat.l0 k L (wrap64 ((e : Int) + 1)) (out ++ (List.replicate n fb).flatten)) x → Ev (fun k => impl_flat.l1 k L out (n : Int) fb (e : Int)) x := by
  intro n
  induction n with
  | zero =>
    intro out hn ho h
    refine Ev.step (fun k => impl_flat.l1.eq_2 _ _ _ _ _ k) ?_
    simp only [if_neg (show ¬ ((0 : Nat) : Int) > 0 by omega)]
    simpa using h
  | succ n ih =>
    intro out hn ho h
    rw [Nat.add_mul] at ho
    have hw : wrap64 (((n + 1 : Nat) : Int) - 1) = (n : Int) := by rw [wrap_id (by omega) (by omega)]; omega
    refine Ev.step (fun k => impl_flat.l1.eq_2 _ _ _ _ _ k) ?_
    simp only [if_pos (show ((n + 1 : Nat) : Int) > 0 by omega), if_pos (show out.length + fb.length < 5864062014805 by omega), hw]
    refine ih (out ++ fb) (by omega) (by rw [List.length_append]; omega) ?_
    rw [rep_succ]
    exact h
theorem impl_stop (L out : List S51) (i : Nat) (h : i = L.length ∨ ∃ E pre r, L = pre ++ E :: r ∧ pre.length = i ∧ endB E = true) : Ev (fun k => impl_flat.l0 k L (i : Int) out) (out, (i : Int)) := by
  have stop : Ev (fun k => impl_flat.j1 k L (i : Int) out false) (out, (i : Int)) := by
    refine Ev.step (fun k => impl_flat.j1.eq_2 _ _ _ _ k) ?_
    simp only [Bool.false_eq_true, if_false, impl_Token.f, Option.bind_some]
    exact Ev.now _
  refine Ev.step (fun k => impl_flat.l0.eq_2 _ _ _ k) ?_
  rcases h with h | ⟨E, pre, r, hL, hp, hE⟩
  · simp only [if_neg (show ¬ (i : Int) < (L.length : Int) by omega)]
    exact stop
  · have hlen : L.length = pre.length + (r.length + 1) := by rw [hL]; simp
    have hr : rd_T51 L (i : Int) = E := by rw [hL, ← hp]; exact rd_mid pre r E
    have e : (E.f0.toList != ([101, 110, 100] : List UInt8)) = false := by
      rw [(end_of E).1 hE]
      decide
    simp only [if_pos (show (i : Int) < (L.length : Int) by omega), if_pos (show (0 : Int) ≤ (i : Int) by omega), hr, e]
    exact stop
theorem impl_put (L pre r out : List S51) (t : S51) (x : List S51 × Int) (hL : L = pre ++ t :: r) (hl : L.length ≤ 1000) (ho : out.length ≤ 1000000) (h1 : repB t = false) (h2 : endB t = false)
    (h : Ev (fun k => impl_flat.l0 k L ((pre.length + 1 : Nat) : Int) (out ++ [t])) x) : Ev (fun k => impl_flat.l0 k L (pre.length : Int) out) x := by
  have hlen : L.length = pre.length + (r.length + 1) := by rw [hL]; simp
  have hr : rd_T51 L (pre.length : Int) = t := by rw [hL]; exact rd_mid pre r t
  have e : (t.f0.toList != ([101, 110, 100] : List UInt8)) = true := by
    rw [bne_iff_ne]
    intro he
    rw [(end_of t).2 he] at h2
    cases h2
  refine Ev.step (fun k => impl_flat.l0.eq_2 _ _ _ k) ?_
  simp only [if_pos (show (pre.length : Int) < (L.length : Int) by omega), if_pos (show (0 : Int) ≤ (pre.length : Int) by omega), hr, e]
  refine Ev.step (fun k => impl_flat.j1.eq_2 _ _ _ _ k) ?_
  simp only [if_true, if_pos (show (0 : Int) ≤ (pre.length : Int) by omega), if_pos (show (pre.length : Int) < (L.length : Int) by omega), hr, ← rep_of, h1, Bool.false_eq_true, if_false, if_pos (show out.length < 5864062014805 by omega), wrap_succ pre.length (by omega)]
  exact h
set_option maxHeartbeats 4000000 in
theorem impl_flat_at : ∀ {d : Nat} {s f : List S51}, Sq d s f → ∀ (L pre post out : List S51) (x : List S51 × Int), L = pre ++ (s ++ post) → L.length ≤ 1000 → out.length + s.length * 9 ^ d ≤ 1000000 →
    Ev (fun k => impl_flat.l0 k L ((pre.length + s.length : Nat) : Int) (out ++ f)) x → Ev (fun k => impl_flat.l0 k L (pre.length : Int) out) x := by
  intro d s f h
  induction h with
  | nil d =>
    intro L pre post out x hL hl ho h
    simpa using h
  | tok d t r f h1 h2 h3 h4 ih =>
    intro L pre post out x hL hl ho h
    simp only [List.length_cons] at ho h
    have hp : 1 ≤ 9 ^ d := Nat.one_le_pow _ _ (by omega)
    rw [Nat.add_mul] at ho
    refine impl_put L pre (r ++ post) out t x (by rw [hL]; rfl) hl (by omega) h1 h2 ?_
    have := ih L (pre ++ [t]) post (out ++ [t]) x (by rw [hL]; simp) hl (by rw [List.length_append, List.length_singleton]; omega) (by
      rw [List.length_append, List.length_singleton, List.append_assoc, show pre.length + 1 + r.length = pre.length + (r.length + 1) by omega]
      exact h)
    rw [List.length_append, List.length_singleton] at this
    exact this
  | blk d c R E b r fb fr h0 h9 hc hR hE h1 h2 ih1 ih2 =>
    intro L pre post out x hL hl ho h
    simp only [List.length_cons, List.length_append] at ho h
    have hlen := congrArg List.length hL
    simp only [List.length_append, List.length_cons] at hlen
    have hcp := num_plain c hc
    obtain ⟨p2, p3, p1, hfb, hol1⟩ := sq_room d c b r fb out h9 (sq_len h1) ho
    have P1 := Aside0.mk p1
    have P2 := Aside0.mk p2
    have P3 := Aside0.mk p3
    clear ho p1 p2 p3
    have hL2 : L = (pre ++ [c]) ++ R :: ((b ++ E :: r) ++ post) := by rw [hL]; simp
    have hL3 : L = (pre ++ [c, R]) ++ (b ++ (E :: r ++ post)) := by rw [hL]; simp
    have hL4 : L = (pre ++ c :: R :: b) ++ E :: (r ++ post) := by rw [hL]; simp
    have hL5 : L = (pre ++ c :: R :: (b ++ [E])) ++ (r ++ post) := by rw [hL]; simp
    have r2 : rd_T51 L ((pre.length + 1 : Nat) : Int) = R := by
      have := rd_mid (pre ++ [c]) ((b ++ E :: r) ++ post) R
      rw [← hL2, List.length_append, List.length_singleton] at this
      exact this
    -- the block's inside
    have inner : Ev (fun k => impl_flat.f k L ((pre.length + 2 : Nat) : Int)) (fb, ((pre.length + 2 + b.length : Nat) : Int)) := by
      refine Ev.step (fun k => impl_flat.f.eq_2 _ _ k) ?_
      have := ih1 L (pre ++ [c, R]) (E :: r ++ post) [] (fb, ((pre.length + 2 + b.length : Nat) : Int)) hL3 hl P1.out (by
        rw [List.length_append, show [c, R].length = 2 from rfl, List.nil_append]
        exact impl_stop L fb _ (Or.inr ⟨E, pre ++ c :: R :: b, r ++ post, hL4, by simp only [List.length_append, List.length_cons]; omega, hE⟩))
      rw [List.length_append, show [c, R].length = 2 from rfl] at this
      exact this
    refine impl_put L pre (R :: (b ++ E :: r) ++ post) out c x (by rw [hL]; simp) hl (by omega) hcp.1 hcp.2 ?_
    have eR : (R.f0.toList != ([101, 110, 100] : List UInt8)) = true := by
      rw [(rep_of R).1 hR]
      decide
    refine Ev.step (fun k => impl_flat.l0.eq_2 _ _ _ k) ?_
    simp only [if_pos (show ((pre.length + 1 : Nat) : Int) < (L.length : Int) by omega), if_pos (show (0 : Int) ≤ ((pre.length + 1 : Nat) : Int) by omega), r2, eR]
    refine Ev.step (fun k => impl_flat.j1.eq_2 _ _ _ _ k) ?_
    have hol : (out ++ [c]).length = out.length + 1 := by simp
    have hw : wrap64 (((out.length + 1 : Nat) : Int) - 1) = (out.length : Int) := by rw [wrap_id (by omega) (by omega)]; omega
    have hrc : rd_T51 (out ++ [c]) (out.length : Int) = c := rd_mid out [] c
    simp only [if_true, if_pos (show ((pre.length + 1 : Nat) : Int) < (L.length : Int) by omega), if_pos (show (0 : Int) ≤ ((pre.length + 1 : Nat) : Int) by omega), r2, ← rep_of, hR, hol, hw, if_pos (show (0 : Int) ≤ (out.length : Int) by omega), if_pos (show (out.length : Int) < ((out.length + 1 : Nat) : Int) by omega), if_pos (show (out.length : Int) ≤ ((out.length + 1 : Nat) : Int) by omega), wrap_succ (pre.length + 1) (by omega), Int.toNat_natCast, List.take_left', hrc]
    refine Ev.bind inner ?_
    have htk : (out ++ [c]).take out.length = out := List.take_left
    simp only [htk]
    obtain ⟨n, hn⟩ := Int.eq_ofNat_of_zero_le h0
    have hnn : c.f1.toNat = n := by omega
    rw [hn]
    have p2 := P2.out
    have p3 := P3.out
    rw [hnn] at p2 p3 h
    have Q2 := Aside0.mk p2
    have Q3 := Aside0.mk p3
    clear p2 p3 P2 P3
    refine impl_reps L (pre.length + 2 + b.length) fb x hfb n out (by omega) Q3.out ?_
    rw [wrap_succ _ (by omega)]
    have := ih2 L (pre ++ c :: R :: (b ++ [E])) post (out ++ (List.replicate n fb).flatten) x hL5 hl Q2.out (by
      have e3 : (pre ++ c :: R :: (b ++ [E])).length = pre.length + 2 + b.length + 1 := by simp only [List.length_append, List.length_cons, List.length_nil]; omega
      rw [e3, List.append_assoc, show pre.length + 2 + b.length + 1 + r.length = pre.length + (b.length + (r.length + 1) + 1 + 1) by omega]
      exact h)
    have e3 : (pre ++ c :: R :: (b ++ [E])).length = pre.length + 2 + b.length + 1 := by simp only [List.length_append, List.length_cons, List.length_nil]; omega
    rw [e3] at this
    exact this
theorem impl_flat_ok (l f : List S51) (hl : l.length ≤ 60) (h : Sq 3 l f) : Ev (fun k => impl_flat.f k l 0) (f, (l.length : Int)) := by
  refine Ev.step (fun k => impl_flat.f.eq_2 _ _ k) ?_
  have h9 : (9 : Nat) ^ 3 = 729 := by decide
  have := impl_flat_at h l [] [] [] (f, (l.length : Int)) (by simp) (by omega) (by simp only [List.length_nil, h9]; omega) (by
    simp only [List.length_nil, List.nil_append, Nat.zero_add]
    exact impl_stop l f _ (Or.inl rfl))
  exact this
theorem both_flatten (l : List S77) (hm : (l.map cvToken).length ≤ 1048576) (hz : ∀ x ∈ l.map cvToken, x.f0.size ≤ 1048576) :
    ∃ F : List S51 × Bool, F.1.length ≤ 1048576 ∧ Ev (fun k => spec_FlattenBlocks.f k (l.map cvToken)) F ∧ Ev (fun k => impl_FlattenBlocks.f k (l.map cvToken)) F := by
  unfold spec_FlattenBlocks.f impl_FlattenBlocks.f
  cases ho : okM (l.map cvToken) with
  | false =>
    refine ⟨([], false), by simp, ?_, ?_⟩
    · have hs : Ev (fun k => spec_FlatLength.f k (l.map cvToken)) (-1) := by
        unfold spec_FlatLength.f
        refine Ev.bind (spec_blocks _ hm hz) ?_
        rw [ho]
        simp only [Bool.false_eq_true, if_false]
        exact Ev.now _
      refine Ev.bind hs ?_
      · simp only [spec_in, Option.bind_some]
        rw [decide_eq_false (by omega)]
        simp only [Bool.false_eq_true, if_false]
        exact Ev.now _
    · refine Ev.bind (impl_blocks _ hm hz) ?_
      rw [ho]
      simp only [Bool.false_eq_true, if_false]
      exact Ev.now _
  | true =>
    obtain ⟨h6, f, hf⟩ := ok_sq _ ho
    have hfl := sq_len hf
    rw [show (9 : Nat) ^ 3 = 729 by decide] at hfl
    have hs : Ev (fun k => spec_FlatLength.f k (l.map cvToken)) (f.length : Int) := by
      unfold spec_FlatLength.f
      refine Ev.bind (spec_blocks _ hm hz) ?_
      rw [ho]
      simp only [if_true]
      refine Ev.bind (spec_flat _ f h6 hf) ?_
      exact Ev.now _
    by_cases h2 : f.length ≤ 200
    · refine ⟨(f, true), by simp only; omega, ?_, ?_⟩
      · refine Ev.bind hs ?_
        · simp only [spec_in, Option.bind_some]
          rw [decide_eq_true (by omega)]
          simp only [if_true]
          refine Ev.bind (spec_flat _ f h6 hf) ?_
          exact Ev.now _
      · refine Ev.bind (impl_blocks _ hm hz) ?_
        rw [ho]
        simp only [if_true]
        refine Ev.bind (impl_flat_ok _ f h6 hf) ?_
        simp only [if_neg (show ¬ (f.length : Int) > 200 by omega)]
        exact Ev.now _
    · refine ⟨([], false), by simp, ?_, ?_⟩
      · refine Ev.bind hs ?_
        · simp only [spec_in, Option.bind_some]
          rw [decide_eq_false (by omega)]
          simp only [Bool.false_eq_true, if_false]
          exact Ev.now _
      · refine Ev.bind (impl_blocks _ hm hz) ?_
        rw [ho]
        simp only [if_true]
        refine Ev.bind (impl_flat_ok _ f h6 hf) ?_
        simp only [if_pos (show (f.length : Int) > 200 by omega)]
        exact Ev.now _
theorem FnExactFlattenBlocks (l : List S77) (hl : l.length ≤ 9223372036854775807) (hs : ∀ x ∈ l, x.f0.size ≤ maxLen ∧ (Lit.int .i64 x.f1).wf = true) : ∃ k, laws_FnExactFlattenBlocks.f k l = some true := by
  refine Ev.rounds ?_
  simp only [laws_FnExactFlattenBlocks.f]
  obtain ⟨v, ev, hv⟩ := sz_tokens l hl fun x hx => (hs x hx).1
  refine Ev.bind ev ?_
  by_cases h : v < 0
  · simp only [if_pos h]
    exact Ev.now _
  · simp only [if_neg h]
    obtain ⟨hn, hz⟩ := hv (by omega)
    have hz := cv_sizes l hz
    have hm : (l.map cvToken).length ≤ 1048576 := by
      simp
      omega
    obtain ⟨⟨F, b⟩, hF, hr1, hr2⟩ := both_flatten l hm hz
    simp only at hF
    refine Ev.bind (toTokens l hn) ?_
    refine Ev.bind hr1 ?_
    refine Ev.bind (toTokens l hn) ?_
    refine Ev.bind hr2 ?_
    refine Ev.bind (eqTokens _ (Nat.le_trans hF (by decide))) ?_
    simp only [if_true, bne_self_eq_false]
    refine Ev.step (fun k => laws_FnExactFlattenBlocks.j0.eq_2 _ _ _ _ _ _ _ k) ?_
    simp only [Bool.false_eq_true, if_false]
    refine Ev.bind (toTokens l hn) ?_
    refine Ev.bind (eqTokens _ (by omega)) ?_
    simp only [if_true]
    refine Ev.bind (mark_toks _ (by omega)) ?_
    simp only [if_neg (show ¬ ((1 + 2 * (l.map cvToken).length : Nat) : Int) < 0 by omega)]
    refine Ev.bind (eqTokens _ (Nat.le_trans hF (by decide))) ?_
    simp only [if_true, bne_self_eq_false]
    refine Ev.step (fun k => laws_FnExactFlattenBlocks.j1.eq_2 _ _ _ _ _ k) ?_
    simp only [Bool.false_eq_true, if_false]
    refine Ev.bind (mark_toks _ (by omega)) ?_
    refine Ev.bind (held_toks _ (by omega)) ?_
    simp only [if_neg (show ¬ ((1 + 2 * F.length : Nat) : Int) < 0 by omega), if_true]
    refine Ev.bind (toTokens l hn) ?_
    refine Ev.bind hr2 ?_
    refine Ev.bind (eqTokens _ (Nat.le_trans hF (by decide))) ?_
    simp only [if_true, bne_self_eq_false]
    refine Ev.step (fun k => laws_FnExactFlattenBlocks.j2.eq_2 _ _ _ k) ?_
    simp only [Bool.false_eq_true, if_false]
    refine Ev.bind (held_toks _ (by omega)) ?_
    simp only [if_neg (show ¬ ((1 + 2 * F.length : Nat) : Int) < 0 by omega), if_true]
    exact Ev.now _

end Go.Proofs.Ytmhnnmjjebolpaa.Pure

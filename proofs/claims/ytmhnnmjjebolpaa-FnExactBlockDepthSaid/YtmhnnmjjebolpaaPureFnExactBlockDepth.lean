/- The program's BlockDepth returns what the reference's returns, for all arguments. This is its pure statement, over numbers and lists, as printed from the program; the row is built on it.
   Conditions: none. -/
import Derived.Test.YtmhnnmjjebolpaaPFnExactBlockDepthx4
namespace Go.Proofs.Ytmhnnmjjebolpaa.Pure
set_option linter.unusedSimpArgs false
set_option linter.unusedVariables false
open Go.RowKit Go.Proofs.Ytmhnnmjjebolpaa.PFnExactBlockDepth Go.Proofs.YtmhnnmjjebolpaaW.PrintWords Go.Proofs.YtmhnnmjjebolpaaW.PrintLast

theorem wrap_id {x : Int} (h0 : -9223372036854775808 ≤ x) (h1 : x ≤ 9223372036854775807) : wrap64 x = x := by
  unfold wrap64
  omega
theorem wrap_succ (i : Nat) (h : i < 4611686018427387904) : wrap64 ((i : Int) + 1) = ((i + 1 : Nat) : Int) := by
  rw [wrap_id (by omega) (by omega)]
  omega
theorem rd_lt (l : List Int) (i : Nat) (h : i < l.length) : rd l (i : Int) = l[i] := by
  unfold rd
  rw [Int.toNat_natCast, List.getD_eq_getElem?_getD, List.getElem?_eq_getElem h]
  rfl
theorem set_take {α : Type} (l x : List α) (i : Nat) (hi : i < l.length) (hx : x.length = l.length) (h : x.take i = l.take i) :
    (x.set i l[i]).take (i + 1) = l.take (i + 1) := by
  rw [List.take_succ_eq_append_getElem (by simp; omega), List.take_succ_eq_append_getElem hi, List.getElem_set_self, List.take_set_of_le (Nat.le_refl i), h]
def allFrom (p : Nat → Bool) (n i : Nat) : Bool := (List.range' i (n - i)).all p
theorem all_end (p : Nat → Bool) (n : Nat) : allFrom p n n = true := by simp [allFrom]
theorem all_step (p : Nat → Bool) (n i : Nat) (h : i < n) : allFrom p n i = (p i && allFrom p n (i + 1)) := by
  unfold allFrom
  rw [show n - i = (n - (i + 1)) + 1 by omega, List.range'_succ, List.all_cons]
theorem all_iff (p : Nat → Bool) (n i : Nat) : allFrom p n i = true ↔ ∀ j, i ≤ j → j < n → p j = true := by
  unfold allFrom
  rw [List.all_eq_true]
  constructor
  · intro h j h1 h2
    exact h j (List.mem_range'_1.2 ⟨h1, by omega⟩)
  · intro h j hj
    have := List.mem_range'_1.1 hj
    exact h j this.1 (by omega)
theorem spec_in (a b c : Int) : spec_l01In.f a b c = some (decide (b ≤ a ∧ a ≤ c)) := by
  unfold spec_l01In.f
  by_cases h : b ≤ a <;> simp [h]
theorem impl_in (a b c : Int) : impl_within.f a b c = some (decide (b ≤ a ∧ a ≤ c)) := by
  unfold impl_within.f
  by_cases h : b ≤ a <;> simp [h]
def letterB (s : ByteArray) (i : Nat) : Bool := decide (97 ≤ bt s (i : Int) ∧ bt s (i : Int) ≤ 122)
def lettersB (s : ByteArray) (i : Nat) : Bool := (List.range' i (s.size - i)).all (letterB s)
def nameB (s : ByteArray) : Bool := decide (1 ≤ s.size ∧ s.size ≤ 8) && lettersB s 0
theorem letters_end (s : ByteArray) : lettersB s s.size = true := by simp [lettersB]
theorem letters_step (s : ByteArray) (i : Nat) (h : i < s.size) : lettersB s i = (letterB s i && lettersB s (i + 1)) := by
  unfold lettersB
  rw [show s.size - i = (s.size - (i + 1)) + 1 by omega, List.range'_succ, List.all_cons]
theorem spec_letters (s : ByteArray) (hs : s.size ≤ 1048577) : ∀ (d i : Nat), i + d = s.size →
    Ev (fun k => spec_IsName.l0 k s (i : Int)) (lettersB s i && decide (1 ≤ s.size ∧ s.size ≤ 8)) := by
  intro d
  induction d with
  | zero =>
    intro i hi
    refine Ev.step (fun k => spec_IsName.l0.eq_2 _ _ k) ?_
    simp only [if_neg (show ¬ (i : Int) < (s.size : Int) by omega), spec_in, Option.bind_some]
    rw [show i = s.size by omega, letters_end]
    have e : decide ((1 : Int) ≤ (s.size : Int) ∧ (s.size : Int) ≤ 8) = (true && decide (1 ≤ s.size ∧ s.size ≤ 8)) := by
      rw [Bool.true_and]
      exact decide_eq_decide.2 ⟨fun h => by omega, fun h => by omega⟩
    rw [e]
    exact Ev.now _
  | succ d ih =>
    intro i hi
    refine Ev.step (fun k => spec_IsName.l0.eq_2 _ _ k) ?_
    simp only [if_pos (show (i : Int) < (s.size : Int) by omega), if_pos (show (0 : Int) ≤ (i : Int) by omega)]
    rw [wrap_succ i (by omega), letters_step s i (by omega)]
    by_cases h1 : bt s (i : Int) < 97
    · simp only [if_pos h1]
      rw [show letterB s i = false from decide_eq_false (by omega)]
      exact Ev.now _
    · simp only [if_neg h1]
      by_cases h2 : bt s (i : Int) > 122
      · simp only [if_pos h2]
        rw [show letterB s i = false from decide_eq_false (by omega)]
        exact Ev.now _
      · simp only [if_neg h2]
        rw [show letterB s i = true from decide_eq_true (by omega), Bool.true_and]
        exact ih (i + 1) (by omega)
theorem spec_name (s : ByteArray) (hs : s.size ≤ 1048577) : Ev (fun k => spec_IsName.f k s) (nameB s) := by
  unfold spec_IsName.f nameB
  rw [Bool.and_comm]
  exact spec_letters s hs s.size 0 (by omega)
theorem impl_letters (s : ByteArray) (hs : s.size ≤ 1048577) : ∀ (d i : Nat), i + d = s.size →
    Ev (fun k => impl_IsName.l0 k s (i : Int)) (lettersB s i) := by
  intro d
  induction d with
  | zero =>
    intro i hi
    refine Ev.step (fun k => impl_IsName.l0.eq_2 _ _ k) ?_
    simp only [if_neg (show ¬ (i : Int) < (s.size : Int) by omega)]
    rw [show i = s.size by omega, letters_end]
    exact Ev.now _
  | succ d ih =>
    intro i hi
    refine Ev.step (fun k => impl_IsName.l0.eq_2 _ _ k) ?_
    simp only [if_pos (show (i : Int) < (s.size : Int) by omega), if_pos (show (0 : Int) ≤ (i : Int) by omega)]
    rw [wrap_succ i (by omega), letters_step s i (by omega)]
    by_cases h1 : bt s (i : Int) < 97
    · simp only [if_pos h1]
      rw [show letterB s i = false from decide_eq_false (by omega)]
      exact Ev.now _
    · simp only [if_neg h1]
      by_cases h2 : bt s (i : Int) > 122
      · simp only [if_pos h2]
        rw [show letterB s i = false from decide_eq_false (by omega)]
        exact Ev.now _
      · simp only [if_neg h2]
        rw [show letterB s i = true from decide_eq_true (by omega), Bool.true_and]
        exact ih (i + 1) (by omega)
theorem impl_name (s : ByteArray) (hs : s.size ≤ 1048577) : Ev (fun k => impl_IsName.f k s) (nameB s) := by
  unfold impl_IsName.f nameB
  have j (t : Bool) : Ev (fun k => impl_IsName.j0 k s t) (!t && lettersB s 0) := by
    refine Ev.step (fun k => impl_IsName.j0.eq_2 _ _ k) ?_
    cases t
    · simp only [Bool.false_eq_true, if_false, Bool.not_false, Bool.true_and]
      exact impl_letters s hs s.size 0 (by omega)
    · simp only [if_true]
      exact Ev.now _
  by_cases h : (s.size : Int) < 1
  · simp only [if_pos h]
    rw [decide_eq_false (by omega)]
    exact j true
  · simp only [if_neg h]
    have e : decide (1 ≤ s.size ∧ s.size ≤ 8) = !decide ((s.size : Int) > 8) := by
      by_cases h8 : s.size ≤ 8
      · rw [decide_eq_true (by omega), decide_eq_false (by omega)]
        rfl
      · rw [decide_eq_false (by omega), decide_eq_true (by omega)]
        rfl
    rw [e]
    exact j _
def tokenB (s : ByteArray) (n : Int) : Bool := if s.toList = ([] : List UInt8) then decide (-999 ≤ n ∧ n ≤ 999) else nameB s && (n == 0)
theorem spec_token (s : ByteArray) (n : Int) (hs : s.size ≤ 1048577) : Ev (fun k => spec_TokenOk.f k s n) (tokenB s n) := by
  unfold spec_TokenOk.f tokenB
  by_cases h : s.toList = ([] : List UInt8)
  · simp only [if_pos h, spec_in, Option.bind_some]
    exact Ev.now _
  · simp only [if_neg h]
    refine Ev.bind (spec_name s hs) ?_
    cases nameB s <;> simp <;> exact Ev.now _
theorem impl_token (s : ByteArray) (n : Int) (hs : s.size ≤ 1048577) : Ev (fun k => impl_TokenOk.f k s n) (tokenB s n) := by
  unfold impl_TokenOk.f tokenB
  by_cases h : s.toList = ([] : List UInt8)
  · simp only [if_pos h, impl_in, Option.bind_some]
    exact Ev.now _
  · simp only [if_neg h]
    refine Ev.bind (impl_name s hs) ?_
    cases nameB s <;> simp <;> exact Ev.now _
theorem sz_token (s : ByteArray) (n m : Int) (hs : s.size ≤ maxLen) (h0 : 0 ≤ m) (hm : m ≤ 1048576) :
    laws_szToken.f s n m = some (if m - s.size < 0 then -1 else m - s.size) := by
  have hs' : s.size ≤ 9223372036854775807 := hs
  unfold laws_szToken.f
  rw [wrap_id (by omega) (by omega)]
  split <;> rfl
def cvToken (x : S77) : S51 := ⟨x.f0, x.f1⟩
theorem rdlToken_lt (l : List S77) (i : Nat) (h : i < l.length) : rd_T77 l (i : Int) = l[i] := by
  unfold rd_T77
  rw [Int.toNat_natCast, List.getD_eq_getElem?_getD, List.getElem?_eq_getElem h]
  rfl
theorem rdiToken_lt (l : List S51) (i : Nat) (h : i < l.length) : rd_T51 l (i : Int) = l[i] := by
  unfold rd_T51
  rw [Int.toNat_natCast, List.getD_eq_getElem?_getD, List.getElem?_eq_getElem h]
  rfl
theorem toToken_loop (l : List S77) (hl : l.length ≤ 1048576) : ∀ (d i : Nat) (x : List S51), i + d = l.length → x.length = l.length → x.take i = (l.map cvToken).take i →
    Ev (fun k => laws_toTokenS.l0 k l x (i : Int)) (l.map cvToken) := by
  intro d
  induction d with
  | zero =>
    intro i x hi hx ht
    refine Ev.step (fun k => laws_toTokenS.l0.eq_2 _ _ _ k) ?_
    simp only [if_neg (show ¬ (i : Int) < (l.length : Int) by omega)]
    rw [List.take_of_length_le (by omega), List.take_of_length_le (by simp; omega)] at ht
    subst ht
    exact Ev.now _
  | succ d ih =>
    intro i x hi hx ht
    refine Ev.step (fun k => laws_toTokenS.l0.eq_2 _ _ _ k) ?_
    simp only [if_pos (show (i : Int) < (l.length : Int) by omega), if_pos (show (0 : Int) ≤ (i : Int) by omega), if_pos (show (i : Int) < (x.length : Int) by omega), laws_toToken.f, Option.bind_some]
    rw [wrap_succ i (by omega), rdlToken_lt l i (by omega), Int.toNat_natCast]
    refine ih (i + 1) _ (by omega) (by simp; omega) ?_
    have := set_take (l.map cvToken) x i (by simp; omega) (by simp; omega) ht
    rw [List.getElem_map] at this
    exact this
theorem toTokens (l : List S77) (hl : l.length ≤ 1048576) : Ev (fun k => laws_toTokenS.f k l) (l.map cvToken) := by
  unfold laws_toTokenS.f
  simp only [if_pos (show (0 : Int) ≤ (l.length : Int) by omega), Int.toNat_natCast, if_pos (show l.length ≤ 11728124029610 by omega)]
  exact toToken_loop l hl l.length 0 _ (by omega) (by simp) (by simp)
theorem eqToken_loop (l : List S51) (hl : l.length ≤ 1048577) : ∀ (d i : Nat), i + d = l.length →
    Ev (fun k => laws_eqTokenS.l0 k l l (i : Int)) true := by
  intro d
  induction d with
  | zero =>
    intro i hi
    refine Ev.step (fun k => laws_eqTokenS.l0.eq_2 _ _ _ k) ?_
    simp only [if_neg (show ¬ (i : Int) < (l.length : Int) by omega)]
    exact Ev.now _
  | succ d ih =>
    intro i hi
    refine Ev.step (fun k => laws_eqTokenS.l0.eq_2 _ _ _ k) ?_
    simp only [if_pos (show (i : Int) < (l.length : Int) by omega), if_pos (show (0 : Int) ≤ (i : Int) by omega), laws_eqToken.f, if_true, Option.bind_some]
    rw [wrap_succ i (by omega)]
    exact ih (i + 1) (by omega)
theorem eqTokens (l : List S51) (hl : l.length ≤ 1048577) : Ev (fun k => laws_eqTokenS.f k l l) true := by
  unfold laws_eqTokenS.f
  simp only [if_true]
  exact eqToken_loop l hl l.length 0 (by omega)
theorem sz_tokens_loop (l : List S77) (hl : l.length ≤ 1048576) (hs : ∀ x ∈ l, x.f0.size ≤ maxLen) : ∀ (d i : Nat) (m : Int), i + d = l.length → 0 ≤ m → m ≤ 1048576 →
    ∃ v, Ev (fun k => laws_szTokenS.l0 k l m (i : Int)) v ∧ (0 ≤ v → ∀ j : Nat, i ≤ j → ∀ h : j < l.length, l[j].f0.size ≤ 1048576) := by
  intro d
  induction d with
  | zero =>
    intro i m hi h0 h1
    refine ⟨m, Ev.step (fun k => laws_szTokenS.l0.eq_2 _ _ _ k) ?_, fun _ j h1 h2 => by omega⟩
    simp only [if_neg (show ¬ (i : Int) < (l.length : Int) by omega)]
    exact Ev.now _
  | succ d ih =>
    intro i m hi h0 h1
    have hb := hs l[i] (List.getElem_mem _)
    by_cases hc : m - (l[i].f0.size : Int) < 0
    · refine ⟨-1, Ev.step (fun k => laws_szTokenS.l0.eq_2 _ _ _ k) ?_, fun h => by omega⟩
      simp only [if_pos (show (i : Int) < (l.length : Int) by omega), if_pos (show (0 : Int) ≤ (i : Int) by omega)]
      rw [rdlToken_lt l i (by omega), sz_token _ _ m hb h0 h1, if_pos hc]
      simp only [Option.bind_some, if_pos (show (-1 : Int) < 0 by omega)]
      exact Ev.now _
    · obtain ⟨v, e, hv⟩ := ih (i + 1) (m - (l[i].f0.size : Int)) (by omega) (by omega) (by omega)
      refine ⟨v, Ev.step (fun k => laws_szTokenS.l0.eq_2 _ _ _ k) ?_, fun h j h2 h3 => ?_⟩
      · simp only [if_pos (show (i : Int) < (l.length : Int) by omega), if_pos (show (0 : Int) ≤ (i : Int) by omega)]
        rw [rdlToken_lt l i (by omega), sz_token _ _ m hb h0 h1, if_neg hc, wrap_succ i (by omega)]
        simp only [Option.bind_some, if_neg hc]
        exact e
      · by_cases hj : j = i
        · subst hj
          omega
        · exact hv h j (by omega) h3
theorem sz_tokens (l : List S77) (hm : l.length ≤ 9223372036854775807) (hs : ∀ x ∈ l, x.f0.size ≤ maxLen) :
    ∃ v, Ev (fun k => laws_szTokenS.f k l 1048576) v ∧ (0 ≤ v → l.length ≤ 1048576 ∧ ∀ x ∈ l, x.f0.size ≤ 1048576) := by
  unfold laws_szTokenS.f
  rw [wrap_id (x := 1048576 - (l.length : Int)) (by omega) (by omega)]
  by_cases hc : (1048576 : Int) - (l.length : Int) < 0
  · simp only [if_pos hc]
    exact ⟨-1, Ev.now _, fun h => by omega⟩
  · simp only [if_neg hc]
    obtain ⟨v, e, hv⟩ := sz_tokens_loop l (by omega) hs l.length 0 (1048576 - (l.length : Int)) (by omega) (by omega) (by omega)
    refine ⟨v, e, fun h => ⟨by omega, fun x hx => ?_⟩⟩
    obtain ⟨j, hj, rfl⟩ := List.getElem_of_mem hx
    exact hv h j (by omega) hj
theorem cv_sizes (l : List S77) (h : ∀ x ∈ l, x.f0.size ≤ 1048576) : ∀ x ∈ l.map cvToken, x.f0.size ≤ 1048576 := by
  intro x hx
  rw [List.mem_map] at hx
  obtain ⟨u, hu, rfl⟩ := hx
  exact h u hu
def repB (s : S51) : Bool := decide (s.f0.toList = ([114, 101, 112, 101, 97, 116] : List UInt8))
def endB (s : S51) : Bool := decide (s.f0.toList = ([101, 110, 100] : List UInt8))
def cntB (l : List S51) (i : Nat) : Bool := !decide (i = 0) && (decide ((rd_T51 l ((i - 1 : Nat) : Int)).f0.toList = ([] : List UInt8)) && decide (0 ≤ (rd_T51 l ((i - 1 : Nat) : Int)).f1 ∧ (rd_T51 l ((i - 1 : Nat) : Int)).f1 ≤ 9))
def tokAt (l : List S51) (i : Nat) : Bool := tokenB (rd_T51 l (i : Int)).f0 (rd_T51 l (i : Int)).f1
def boM (l : List S51) : Nat → Nat → Int → Bool
  | 0, _, d => d == 0
  | r + 1, i, d => if repB (rd_T51 l (i : Int)) = true then (if cntB l i = true then (if d + 1 > 3 then false else boM l r (i + 1) (d + 1)) else false)
      else if endB (rd_T51 l (i : Int)) = true then (if d - 1 < 0 then false else boM l r (i + 1) (d - 1)) else boM l r (i + 1) d
def bdM (l : List S51) : Nat → Nat → Int → Int → Int
  | 0, _, _, m => m
  | r + 1, i, d, m => if repB (rd_T51 l (i : Int)) = true then bdM l r (i + 1) (d + 1) (mx m (d + 1))
      else if endB (rd_T51 l (i : Int)) = true then bdM l r (i + 1) (d - 1) m else bdM l r (i + 1) d m
def okM (l : List S51) : Bool := decide (l.length ≤ 60) && (allFrom (tokAt l) l.length 0 && boM l l.length 0 0)
theorem wrap_pred (i : Nat) (h0 : 0 < i) (h : i < 4611686018427387904) : wrap64 ((i : Int) - 1) = ((i - 1 : Nat) : Int) := by
  rw [wrap_id (by omega) (by omega)]
  omega
theorem rd_size (l : List S51) (hs : ∀ x ∈ l, x.f0.size ≤ 1048576) (i : Nat) (hi : i < l.length) : (rd_T51 l (i : Int)).f0.size ≤ 1048577 := by
  rw [rdiToken_lt l i hi]
  have := hs l[i] (List.getElem_mem _)
  omega
theorem impl_tokens_loop (l : List S51) (hl : l.length ≤ 1048576) (hs : ∀ x ∈ l, x.f0.size ≤ 1048576) : ∀ (d i : Nat), i + d = l.length →
    Ev (fun k => impl_tokensOk.l0 k l (l.length : Int) (i : Int)) (allFrom (tokAt l) l.length i) := by
  intro d
  induction d with
  | zero =>
    intro i hi
    refine Ev.step (fun k => impl_tokensOk.l0.eq_2 _ _ _ k) ?_
    simp only [if_neg (show ¬ (i : Int) < (l.length : Int) by omega)]
    rw [show i = l.length by omega, all_end]
    exact Ev.now _
  | succ d ih =>
    intro i hi
    refine Ev.step (fun k => impl_tokensOk.l0.eq_2 _ _ _ k) ?_
    simp only [if_pos (show (i : Int) < (l.length : Int) by omega), if_pos (show (0 : Int) ≤ (i : Int) by omega)]
    rw [wrap_succ i (by omega), all_step _ _ _ (show i < l.length by omega)]
    refine Ev.bind (impl_token _ _ (rd_size l hs i (by omega))) ?_
    change Ev (fun k => if tokAt l i = true then _ else _) _
    cases tokAt l i with
    | false =>
      simp only [Bool.false_eq_true, if_false, Bool.false_and]
      exact Ev.now _
    | true =>
      simp only [if_true, Bool.true_and]
      exact ih (i + 1) (by omega)
theorem impl_tokens (l : List S51) (hl : l.length ≤ 1048576) (hs : ∀ x ∈ l, x.f0.size ≤ 1048576) : Ev (fun k => impl_tokensOk.f k l) (allFrom (tokAt l) l.length 0) := by
  unfold impl_tokensOk.f
  exact impl_tokens_loop l hl hs l.length 0 (by omega)
theorem impl_bo_loop (l : List S51) (hl : l.length ≤ 1048576) : ∀ (r i : Nat) (d : Int), i + r = l.length → 0 ≤ d → d ≤ i →
    Ev (fun k => impl_BlocksOk.l0 k l d l (l.length : Int) (i : Int)) (boM l r i d) := by
  intro r
  induction r with
  | zero =>
    intro i d hi h0 h1
    refine Ev.step (fun k => impl_BlocksOk.l0.eq_2 _ _ _ _ _ k) ?_
    simp only [if_neg (show ¬ (i : Int) < (l.length : Int) by omega)]
    exact Ev.now _
  | succ r ih =>
    intro i d hi h0 h1
    refine Ev.step (fun k => impl_BlocksOk.l0.eq_2 _ _ _ _ _ k) ?_
    simp only [if_pos (show (i : Int) < (l.length : Int) by omega), if_pos (show (0 : Int) ≤ (i : Int) by omega)]
    rw [wrap_succ i (by omega), wrap_id (x := d - 1) (by omega) (by omega), boM]
    have hj (b : Bool) : Ev (fun k => impl_BlocksOk.j2 k l d l (l.length : Int) (i : Int) (!b)) (if b = true then (if d + 1 > 3 then false else boM l r (i + 1) (d + 1)) else false) := by
      refine Ev.step (fun k => impl_BlocksOk.j2.eq_2 _ _ _ _ _ _ k) ?_
      rw [wrap_succ i (by omega), wrap_id (x := d + 1) (by omega) (by omega)]
      cases b with
      | false =>
        simp only [Bool.not_false, Bool.false_eq_true, if_true, if_false]
        exact Ev.now _
      | true =>
        simp only [Bool.not_true, Bool.false_eq_true, if_true, if_false]
        by_cases h3 : d + 1 > 3
        · simp only [if_pos h3]
          exact Ev.now _
        · simp only [if_neg h3]
          exact ih (i + 1) (d + 1) (by omega) (by omega) (by omega)
    by_cases hr : (rd_T51 l (i : Int)).f0.toList = ([114, 101, 112, 101, 97, 116] : List UInt8)
    · simp only [if_pos hr, repB, decide_eq_true hr, if_true]
      by_cases hz : i = 0
      · subst hz
        simp only [if_pos (show ((0 : Nat) : Int) = 0 by omega)]
        exact hj false
      · rw [wrap_pred i (by omega) (by omega)]
        simp only [if_neg (show ¬ (i : Int) = 0 by omega), if_pos (show (0 : Int) ≤ ((i - 1 : Nat) : Int) by omega), if_pos (show ((i - 1 : Nat) : Int) < (l.length : Int) by omega)]
        by_cases hn : (rd_T51 l ((i - 1 : Nat) : Int)).f0.toList = ([] : List UInt8)
        · simp only [if_pos hn, impl_in, Option.bind_some]
          have e : cntB l i = decide (0 ≤ (rd_T51 l ((i - 1 : Nat) : Int)).f1 ∧ (rd_T51 l ((i - 1 : Nat) : Int)).f1 ≤ 9) := by
            unfold cntB
            rw [decide_eq_false hz, decide_eq_true hn, Bool.not_false, Bool.true_and, Bool.true_and]
          rw [e]
          exact hj _
        · simp only [if_neg hn]
          have e : cntB l i = false := by
            unfold cntB
            rw [decide_eq_false hn, Bool.false_and, Bool.and_false]
          rw [e]
          exact hj false
    · simp only [if_neg hr, repB, decide_eq_false hr, Bool.false_eq_true, if_false]
      by_cases he : (rd_T51 l (i : Int)).f0.toList = ([101, 110, 100] : List UInt8)
      · simp only [if_pos he, endB, decide_eq_true he, if_true]
        by_cases h3 : d - 1 < 0
        · simp only [if_pos h3]
          exact Ev.now _
        · simp only [if_neg h3]
          exact ih (i + 1) (d - 1) (by omega) (by omega) (by omega)
      · simp only [if_neg he, endB, decide_eq_false he, Bool.false_eq_true, if_false]
        exact ih (i + 1) d (by omega) (by omega) (by omega)
theorem impl_blocks (l : List S51) (hl : l.length ≤ 1048576) (hs : ∀ x ∈ l, x.f0.size ≤ 1048576) : Ev (fun k => impl_BlocksOk.f k l) (okM l) := by
  unfold impl_BlocksOk.f okM
  have hj (b : Bool) : Ev (fun k => impl_BlocksOk.j0 k l (!b)) (b && boM l l.length 0 0) := by
    refine Ev.step (fun k => impl_BlocksOk.j0.eq_2 _ _ k) ?_
    cases b with
    | false =>
      simp only [Bool.not_false, Bool.false_and, if_true]
      exact Ev.now _
    | true =>
      simp only [Bool.not_true, Bool.true_and, Bool.false_eq_true, if_false]
      exact impl_bo_loop l hl l.length 0 0 (by omega) (by omega) (by omega)
  by_cases h : (l.length : Int) > 60
  · simp only [if_pos h, decide_eq_false (show ¬ l.length ≤ 60 by omega), Bool.false_and]
    exact hj false
  · simp only [if_neg h, decide_eq_true (show l.length ≤ 60 by omega), Bool.true_and]
    refine Ev.bind (impl_tokens l hl hs) ?_
    exact hj _
def spM (l : List S51) : Nat → Nat → Int → Int → Int
  | 0, _, d, m => if d = 0 then (if m > 3 then -1 else m) else -1
  | r + 1, i, d, m => if (tokAt l i && decide (l.length ≤ 60)) = true then
      (if repB (rd_T51 l (i : Int)) = true then (if cntB l i = true then spM l r (i + 1) (d + 1) (mx m (d + 1)) else -1)
      else if endB (rd_T51 l (i : Int)) = true then (if d - 1 < 0 then -1 else spM l r (i + 1) (d - 1) m) else spM l r (i + 1) d m) else -1
theorem mx_ge (a b : Int) : a ≤ mx a b ∧ b ≤ mx a b ∧ (mx a b = a ∨ mx a b = b) := by
  unfold mx
  split <;> omega
theorem spec_bd_loop (l : List S51) (hl : l.length ≤ 1048576) (hs : ∀ x ∈ l, x.f0.size ≤ 1048576) : ∀ (r i : Nat) (d m : Int), i + r = l.length → 0 ≤ d → d ≤ i →
    Ev (fun k => spec_BlockDepth.l0 k l d m (i : Int)) (spM l r i d m) := by
  intro r
  induction r with
  | zero =>
    intro i d m hi h0 h1
    refine Ev.step (fun k => spec_BlockDepth.l0.eq_2 _ _ _ _ k) ?_
    simp only [if_neg (show ¬ (i : Int) < (l.length : Int) by omega), spM]
    by_cases h2 : d = 0
    · simp only [if_pos h2]
      by_cases h3 : m > 3
      · simp only [if_pos h3]
        exact Ev.now _
      · simp only [if_neg h3]
        exact Ev.now _
    · simp only [if_neg h2]
      exact Ev.now _
  | succ r ih =>
    intro i d m hi h0 h1
    refine Ev.step (fun k => spec_BlockDepth.l0.eq_2 _ _ _ _ k) ?_
    simp only [if_pos (show (i : Int) < (l.length : Int) by omega), if_pos (show (0 : Int) ≤ (i : Int) by omega)]
    refine Ev.bind (spec_token _ _ (rd_size l hs i (by omega))) ?_
    change Ev (fun k => if tokAt l i = true then _ else _) _
    rw [spM]
    have bad : Ev (fun k => spec_BlockDepth.j1 k l d m (i : Int) true) (-1) := by
      refine Ev.step (fun k => spec_BlockDepth.j1.eq_2 _ _ _ _ _ k) ?_
      simp only [if_true]
      exact Ev.now _
    cases tokAt l i with
    | false =>
      simp only [Bool.false_eq_true, if_false, Bool.false_and]
      exact bad
    | true =>
      simp only [if_true, Bool.true_and]
      by_cases h6 : (l.length : Int) > 60
      · rw [decide_eq_true h6, decide_eq_false (show ¬ l.length ≤ 60 by omega)]
        simp only [Bool.false_eq_true, if_false]
        exact bad
      · rw [decide_eq_false h6, decide_eq_true (show l.length ≤ 60 by omega)]
        simp only [if_true]
        refine Ev.step (fun k => spec_BlockDepth.j1.eq_2 _ _ _ _ _ k) ?_
        simp only [Bool.false_eq_true, if_false, if_pos (show (i : Int) < (l.length : Int) by omega), if_pos (show (0 : Int) ≤ (i : Int) by omega)]
        rw [wrap_succ i (by omega), wrap_id (x := d - 1) (by omega) (by omega), wrap_id (x := d + 1) (by omega) (by omega)]
        by_cases hr : (rd_T51 l (i : Int)).f0.toList = ([114, 101, 112, 101, 97, 116] : List UInt8)
        · simp only [if_pos hr, repB, decide_eq_true hr, if_true]
          by_cases hz : i = 0
          · subst hz
            simp only [if_pos (show ((0 : Nat) : Int) = 0 by omega)]
            exact Ev.now _
          · rw [wrap_pred i (by omega) (by omega)]
            simp only [if_neg (show ¬ (i : Int) = 0 by omega), if_pos (show (0 : Int) ≤ ((i - 1 : Nat) : Int) by omega), if_pos (show ((i - 1 : Nat) : Int) < (l.length : Int) by omega)]
            by_cases hn : (rd_T51 l ((i - 1 : Nat) : Int)).f0.toList = ([] : List UInt8)
            · simp only [if_pos hn, spec_in, Option.bind_some]
              have e : cntB l i = decide (0 ≤ (rd_T51 l ((i - 1 : Nat) : Int)).f1 ∧ (rd_T51 l ((i - 1 : Nat) : Int)).f1 ≤ 9) := by
                unfold cntB
                rw [decide_eq_false hz, decide_eq_true hn, Bool.not_false, Bool.true_and, Bool.true_and]
              rw [e]
              cases decide (0 ≤ (rd_T51 l ((i - 1 : Nat) : Int)).f1 ∧ (rd_T51 l ((i - 1 : Nat) : Int)).f1 ≤ 9) with
              | false =>
                simp only [Bool.false_eq_true, if_false]
                exact Ev.now _
              | true =>
                simp only [if_true]
                exact ih (i + 1) (d + 1) _ (by omega) (by omega) (by omega)
            · simp only [if_neg hn]
              have e : cntB l i = false := by
                unfold cntB
                rw [decide_eq_false hn, Bool.false_and, Bool.and_false]
              rw [e]
              simp only [Bool.false_eq_true, if_false]
              exact Ev.now _
        · simp only [if_neg hr, repB, decide_eq_false hr, Bool.false_eq_true, if_false]
          by_cases he : (rd_T51 l (i : Int)).f0.toList = ([101, 110, 100] : List UInt8)
          · simp only [if_pos he, endB, decide_eq_true he, if_true]
            by_cases h3 : d - 1 < 0
            · simp only [if_pos h3]
              exact Ev.now _
            · simp only [if_neg h3]
              exact ih (i + 1) (d - 1) m (by omega) (by omega) (by omega)
          · simp only [if_neg he, endB, decide_eq_false he, Bool.false_eq_true, if_false]
            exact ih (i + 1) d m (by omega) (by omega) (by omega)
theorem bd_ge (l : List S51) : ∀ (r i : Nat) (d m : Int), m ≤ bdM l r i d m := by
  intro r
  induction r with
  | zero => intro i d m; exact Int.le_refl _
  | succ r ih =>
    intro i d m
    rw [bdM]
    split
    · have := ih (i + 1) (d + 1) (mx m (d + 1))
      have := (mx_ge m (d + 1)).1
      omega
    · split
      · exact ih _ _ _
      · exact ih _ _ _
theorem sp_high (l : List S51) : ∀ (r i : Nat) (d m : Int), 3 < m → spM l r i d m = -1 := by
  intro r
  induction r with
  | zero =>
    intro i d m h
    rw [spM, if_pos h]
    split <;> rfl
  | succ r ih =>
    intro i d m h
    have h1 := (mx_ge m (d + 1)).1
    rw [spM]
    repeat' split
    all_goals first | rfl | exact ih _ _ _ (by omega)
theorem sp_is (l : List S51) (h6 : l.length ≤ 60) : ∀ (r i : Nat) (d m : Int), i + r = l.length → m ≤ 3 →
    spM l r i d m = if (allFrom (tokAt l) l.length i && boM l r i d) = true then bdM l r i d m else -1 := by
  intro r
  induction r with
  | zero =>
    intro i d m hi h
    rw [spM, boM, bdM, show i = l.length by omega, all_end, Bool.true_and]
    by_cases h2 : d = 0
    · subst h2
      simp [show ¬ m > 3 by omega]
    · simp [h2]
  | succ r ih =>
    intro i d m hi h
    rw [spM, boM, bdM, all_step _ _ _ (show i < l.length by omega), decide_eq_true h6, Bool.and_true]
    cases tokAt l i with
    | false => simp
    | true =>
      simp only [if_true, Bool.true_and]
      cases repB (rd_T51 l (i : Int)) with
      | true =>
        simp only [if_true]
        cases cntB l i with
        | false => simp
        | true =>
          simp only [if_true]
          have hg := mx_ge m (d + 1)
          by_cases h3 : d + 1 > 3
          · rw [sp_high l _ _ _ _ (by omega), if_pos h3]
            simp
          · rw [if_neg h3]
            exact ih (i + 1) (d + 1) _ (by omega) (by omega)
      | false =>
        simp only [Bool.false_eq_true, if_false]
        cases endB (rd_T51 l (i : Int)) with
        | true =>
          simp only [if_true]
          by_cases h3 : d - 1 < 0
          · simp [h3]
          · simp only [if_neg h3]
            exact ih (i + 1) (d - 1) m (by omega) h
        | false =>
          simp only [Bool.false_eq_true, if_false]
          exact ih (i + 1) d m (by omega) h
def depthM (l : List S51) : Int := if okM l = true then bdM l l.length 0 0 0 else -1
theorem spec_depth (l : List S51) (hl : l.length ≤ 1048576) (hs : ∀ x ∈ l, x.f0.size ≤ 1048576) : Ev (fun k => spec_BlockDepth.f k l) (depthM l) := by
  unfold spec_BlockDepth.f
  have h := spec_bd_loop l hl hs l.length 0 0 0 (by omega) (by omega) (by omega)
  have e : spM l l.length 0 0 0 = depthM l := by
    unfold depthM okM
    by_cases h6 : l.length ≤ 60
    · rw [sp_is l h6 l.length 0 0 0 (by omega) (by omega), decide_eq_true h6, Bool.true_and]
    · rw [decide_eq_false h6, Bool.false_and, if_neg (by decide)]
      generalize hn : l.length = n at *
      cases n with
      | zero => omega
      | succ n =>
        rw [spM, hn, decide_eq_false h6, Bool.and_false, if_neg (by decide)]
  rw [e] at h
  exact h
theorem impl_bd_loop (l : List S51) (hl : l.length ≤ 1048576) : ∀ (r i : Nat) (d m : Int), i + r = l.length → -(i : Int) ≤ d → d ≤ i →
    Ev (fun k => impl_BlockDepth.l0 k d m l (l.length : Int) (i : Int)) (bdM l r i d m) := by
  intro r
  induction r with
  | zero =>
    intro i d m hi h0 h1
    refine Ev.step (fun k => impl_BlockDepth.l0.eq_2 _ _ _ _ _ k) ?_
    simp only [if_neg (show ¬ (i : Int) < (l.length : Int) by omega)]
    exact Ev.now _
  | succ r ih =>
    intro i d m hi h0 h1
    refine Ev.step (fun k => impl_BlockDepth.l0.eq_2 _ _ _ _ _ k) ?_
    simp only [if_pos (show (i : Int) < (l.length : Int) by omega), if_pos (show (0 : Int) ≤ (i : Int) by omega)]
    rw [wrap_succ i (by omega), wrap_id (x := d - 1) (by omega) (by omega), wrap_id (x := d + 1) (by omega) (by omega), bdM]
    by_cases hr : (rd_T51 l (i : Int)).f0.toList = ([114, 101, 112, 101, 97, 116] : List UInt8)
    · simp only [if_pos hr, repB, decide_eq_true hr, if_true]
      exact ih (i + 1) (d + 1) _ (by omega) (by omega) (by omega)
    · simp only [if_neg hr, repB, decide_eq_false hr, Bool.false_eq_true, if_false]
      by_cases he : (rd_T51 l (i : Int)).f0.toList = ([101, 110, 100] : List UInt8)
      · simp only [if_pos he, endB, decide_eq_true he, if_true]
        exact ih (i + 1) (d - 1) m (by omega) (by omega) (by omega)
      · simp only [if_neg he, endB, decide_eq_false he, Bool.false_eq_true, if_false]
        exact ih (i + 1) d m (by omega) (by omega) (by omega)
theorem impl_depth (l : List S51) (hl : l.length ≤ 1048576) (hs : ∀ x ∈ l, x.f0.size ≤ 1048576) : Ev (fun k => impl_BlockDepth.f k l) (depthM l) := by
  unfold impl_BlockDepth.f depthM
  refine Ev.bind (impl_blocks l hl hs) ?_
  cases okM l with
  | false =>
    simp only [Bool.false_eq_true, if_false]
    exact Ev.now _
  | true =>
    simp only [if_true]
    exact impl_bd_loop l hl l.length 0 0 0 (by omega) (by omega) (by omega)
theorem FnExactBlockDepth (l : List S77) (hl : l.length ≤ 9223372036854775807) (hs : ∀ x ∈ l, x.f0.size ≤ maxLen ∧ (Lit.int .i64 x.f1).wf = true) : ∃ k, laws_FnExactBlockDepth.f k l = some true := by
  refine Ev.rounds ?_
  simp only [laws_FnExactBlockDepth.f]
  obtain ⟨v, ev, hv⟩ := sz_tokens l hl fun x hx => (hs x hx).1
  refine Ev.bind ev ?_
  by_cases h : v < 0
  · simp only [if_pos h]
    exact Ev.now _
  · simp only [if_neg h]
    obtain ⟨hn, hz⟩ := hv (by omega)
    have hz := cv_sizes l hz
    have hm : (l.map cvToken).length ≤ 1048576 := by
      simp
      omega
    refine Ev.bind (toTokens l hn) ?_
    refine Ev.bind (spec_depth _ hm hz) ?_
    refine Ev.bind (toTokens l hn) ?_
    refine Ev.bind (impl_depth _ hm hz) ?_
    simp only [if_true]
    refine Ev.bind (toTokens l hn) ?_
    refine Ev.bind (eqTokens _ (by omega)) ?_
    simp only [if_true]
    exact Ev.now _

end Go.Proofs.Ytmhnnmjjebolpaa.Pure

/- Flattened blocks have no repetitions, and their length is known before. (P6) This is its pure statement, over numbers and lists, as printed from the program; the row is built on it.
   Conditions: none. -/
import Derived.Test.YtmhnnmjjebolpaaGFnRepeatsx5
import Derived.Lib.Strings
namespace Go.Proofs.Ytmhnnmjjebolpaa.Pure
set_option linter.unusedSimpArgs false
set_option linter.unusedVariables false
open Go.RowKit Go.Proofs.Ytmhnnmjjebolpaa.GFnRepeats Go.Proofs.YtmhnnmjjebolpaaW.PrintWords Go.Proofs.YtmhnnmjjebolpaaW.PrintLast

theorem wrap_id {x : Int} (h0 : -9223372036854775808 ≤ x) (h1 : x ≤ 9223372036854775807) : wrap64 x = x := by
  unfold wrap64
  omega
theorem wrap_succ (i : Nat) (h : i < 4611686018427387904) : wrap64 ((i : Int) + 1) = ((i + 1 : Nat) : Int) := by
  rw [wrap_id (by omega) (by omega)]
  omega
theorem rd_lt (l : List Int) (i : Nat) (h : i < l.length) : rd l (i : Int) = l[i] := by
  unfold rd
  rw [Int.toNat_natCast, List.getD_eq_getElem?_getD, List.getElem?_eq_getElem h]
  rfl
theorem set_take {α : Type} (l x : List α) (i : Nat) (hi : i < l.length) (hx : x.length = l.length) (h : x.take i = l.take i) :
    (x.set i l[i]).take (i + 1) = l.take (i + 1) := by
  rw [List.take_succ_eq_append_getElem (by simp; omega), List.take_succ_eq_append_getElem hi, List.getElem_set_self, List.take_set_of_le (Nat.le_refl i), h]
def allFrom (p : Nat → Bool) (n i : Nat) : Bool := (List.range' i (n - i)).all p
theorem all_end (p : Nat → Bool) (n : Nat) : allFrom p n n = true := by simp [allFrom]
theorem all_step (p : Nat → Bool) (n i : Nat) (h : i < n) : allFrom p n i = (p i && allFrom p n (i + 1)) := by
  unfold allFrom
  rw [show n - i = (n - (i + 1)) + 1 by omega, List.range'_succ, List.all_cons]
theorem all_iff (p : Nat → Bool) (n i : Nat) : allFrom p n i = true ↔ ∀ j, i ≤ j → j < n → p j = true := by
  unfold allFrom
  rw [List.all_eq_true]
  constructor
  · intro h j h1 h2
    exact h j (List.mem_range'_1.2 ⟨h1, by omega⟩)
  · intro h j hj
    have := List.mem_range'_1.1 hj
    exact h j this.1 (by omega)
theorem impl_in (a b c : Int) : impl_within.f a b c = some (decide (b ≤ a ∧ a ≤ c)) := by
  unfold impl_within.f
  by_cases h : b ≤ a <;> simp [h]
def letterB (s : ByteArray) (i : Nat) : Bool := decide (97 ≤ bt s (i : Int) ∧ bt s (i : Int) ≤ 122)
def lettersB (s : ByteArray) (i : Nat) : Bool := (List.range' i (s.size - i)).all (letterB s)
def nameB (s : ByteArray) : Bool := decide (1 ≤ s.size ∧ s.size ≤ 8) && lettersB s 0
theorem letters_end (s : ByteArray) : lettersB s s.size = true := by simp [lettersB]
theorem letters_step (s : ByteArray) (i : Nat) (h : i < s.size) : lettersB s i = (letterB s i && lettersB s (i + 1)) := by
  unfold lettersB
  rw [show s.size - i = (s.size - (i + 1)) + 1 by omega, List.range'_succ, List.all_cons]
def tokenB (s : ByteArray) (n : Int) : Bool := if s.toList = ([] : List UInt8) then decide (-999 ≤ n ∧ n ≤ 999) else nameB s && (n == 0)
theorem impl_letters (s : ByteArray) (hs : s.size ≤ 1048577) : ∀ (d i : Nat), i + d = s.size →
    Ev (fun k => impl_IsName.l0 k s (i : Int)) (lettersB s i) := by
  intro d
  induction d with
  | zero =>
    intro i hi
    refine Ev.step (fun k => impl_IsName.l0.eq_2 _ _ k) ?_
    simp only [if_neg (show ¬ (i : Int) < (s.size : Int) by omega)]
    rw [show i = s.size by omega, letters_end]
    exact Ev.now _
  | succ d ih =>
    intro i hi
    refine Ev.step (fun k => impl_IsName.l0.eq_2 _ _ k) ?_
    simp only [if_pos (show (i : Int) < (s.size : Int) by omega), if_pos (show (0 : Int) ≤ (i : Int) by omega)]
    rw [wrap_succ i (by omega), letters_step s i (by omega)]
    by_cases h1 : bt s (i : Int) < 97
    · simp only [if_pos h1]
      rw [show letterB s i = false from decide_eq_false (by omega)]
      exact Ev.now _
    · simp only [if_neg h1]
      by_cases h2 : bt s (i : Int) > 122
      · simp only [if_pos h2]
        rw [show letterB s i = false from decide_eq_false (by omega)]
        exact Ev.now _
      · simp only [if_neg h2]
        rw [show letterB s i = true from decide_eq_true (by omega), Bool.true_and]
        exact ih (i + 1) (by omega)
theorem impl_name (s : ByteArray) (hs : s.size ≤ 1048577) : Ev (fun k => impl_IsName.f k s) (nameB s) := by
  unfold impl_IsName.f nameB
  have j (t : Bool) : Ev (fun k => impl_IsName.j0 k s t) (!t && lettersB s 0) := by
    refine Ev.step (fun k => impl_IsName.j0.eq_2 _ _ k) ?_
    cases t
    · simp only [Bool.false_eq_true, if_false, Bool.not_false, Bool.true_and]
      exact impl_letters s hs s.size 0 (by omega)
    · simp only [if_true]
      exact Ev.now _
  by_cases h : (s.size : Int) < 1
  · simp only [if_pos h]
    rw [decide_eq_false (by omega)]
    exact j true
  · simp only [if_neg h]
    have e : decide (1 ≤ s.size ∧ s.size ≤ 8) = !decide ((s.size : Int) > 8) := by
      by_cases h8 : s.size ≤ 8
      · rw [decide_eq_true (by omega), decide_eq_false (by omega)]
        rfl
      · rw [decide_eq_false (by omega), decide_eq_true (by omega)]
        rfl
    rw [e]
    exact j _
theorem impl_token (s : ByteArray) (n : Int) (hs : s.size ≤ 1048577) : Ev (fun k => impl_TokenOk.f k s n) (tokenB s n) := by
  unfold impl_TokenOk.f tokenB
  by_cases h : s.toList = ([] : List UInt8)
  · simp only [if_pos h, impl_in, Option.bind_some]
    exact Ev.now _
  · simp only [if_neg h]
    refine Ev.bind (impl_name s hs) ?_
    cases nameB s <;> simp <;> exact Ev.now _
theorem rdiToken_lt (l : List S51) (i : Nat) (h : i < l.length) : rd_T51 l (i : Int) = l[i] := by
  unfold rd_T51
  rw [Int.toNat_natCast, List.getD_eq_getElem?_getD, List.getElem?_eq_getElem h]
  rfl
theorem and_low (x : Int) : 0 ≤ Go.bits .and .i64 x 255 ∧ Go.bits .and .i64 x 255 ≤ 255 := by
  have h : ((BitVec.ofInt 64 x) &&& (BitVec.ofInt 64 255)).toNat ≤ 255 := by
    rw [BitVec.toNat_and]
    exact Nat.and_le_right
  have e : Go.bits .and .i64 x 255 = IntKind.i64.wrap ((((BitVec.ofInt 64 x) &&& (BitVec.ofInt 64 255)).toNat : Nat) : Int) := rfl
  rw [e]
  generalize ((BitVec.ofInt 64 x) &&& (BitVec.ofInt 64 255)).toNat = n at h
  have e2 : IntKind.i64.wrap ((n : Nat) : Int) = n := by
    simp only [IntKind.wrap, IntKind.bits, IntKind.signed]
    simp
    omega
  rw [e2]
  omega
theorem draw_new (l : List Int) (hl : l.length ≤ 1048576) : ∃ h, Ev (fun k => spec_l01New.f k l) (l, 0, h) := by
  unfold spec_l01New.f
  have loop : ∀ (d i : Nat) (h : Int), i + d = l.length → ∃ h', Ev (fun k => spec_l01New.l0 k l h (i : Int)) (l, 0, h') := by
    intro d
    induction d with
    | zero =>
      intro i h hi
      refine ⟨h, Ev.step (fun k => spec_l01New.l0.eq_2 _ _ _ k) ?_⟩
      simp only [if_neg (show ¬ (i : Int) < (l.length : Int) by omega)]
      exact Ev.now _
    | succ d ih =>
      intro i h hi
      by_cases hc : (i : Int) < 4000
      · obtain ⟨h', hh⟩ := ih (i + 1) (Go.bits .and .i64 (wrap64 ((wrap64 ((wrap64 (h * 131)) + (wrap64 (rd l i)))) + 7)) 1073741823) (by omega)
        refine ⟨h', Ev.step (fun k => spec_l01New.l0.eq_2 _ _ _ k) ?_⟩
        simp only [if_pos (show (i : Int) < (l.length : Int) by omega), if_pos hc, if_pos (show (0 : Int) ≤ (i : Int) by omega)]
        rw [wrap_succ i (by omega)]
        exact hh
      · refine ⟨h, Ev.step (fun k => spec_l01New.l0.eq_2 _ _ _ k) ?_⟩
        simp only [if_pos (show (i : Int) < (l.length : Int) by omega), if_neg hc]
        exact Ev.now _
  exact loop l.length 0 _ (by omega)
/-- A place in the bytes of a draw. -/
def Cur (l : List Int) (i : Int) : Prop := 0 ≤ i ∧ i ≤ (l.length : Int)
theorem draw_byte (l : List Int) (hl : l.length ≤ 1048576) (i h : Int) (hi : Cur l i) : ∃ v i' h', spec_l01Byte.f l i h = some (v, i', h') ∧ Cur l i' ∧ 0 ≤ v ∧ v ≤ 255 := by
  unfold spec_l01Byte.f
  unfold Cur at *
  by_cases hc : i < (l.length : Int)
  · rw [if_pos hc, if_pos hi.1]
    exact ⟨_, _, _, rfl, by rw [wrap_id (by omega) (by omega)]; omega, (and_low _).1, (and_low _).2⟩
  · rw [if_neg hc]
    exact ⟨_, _, _, rfl, hi, (and_low _).1, (and_low _).2⟩
theorem tmod_low (v n : Int) (h0 : 0 ≤ v) (hn : 0 < n) : 0 ≤ Int.tmod v n ∧ Int.tmod v n < n :=
  ⟨Int.tmod_nonneg n h0, Int.tmod_lt_of_pos v hn⟩
theorem draw_below (l : List Int) (hl : l.length ≤ 1048576) (i h n : Int) (hi : Cur l i) (hn : 0 < n) : ∃ v i' h', spec_l01Below.f l i h n = some (v, i', h') ∧ Cur l i' ∧ 0 ≤ v ∧ v < n := by
  unfold spec_l01Below.f
  rw [if_neg (by omega)]
  by_cases hc : n ≤ 256
  · rw [if_pos hc]
    obtain ⟨v, i1, h1, e, c1, v0, v1⟩ := draw_byte l hl i h hi
    rw [e]
    simp only [Option.bind_some]
    rw [if_neg (by omega)]
    exact ⟨_, _, _, rfl, c1, tmod_low v n v0 hn⟩
  · rw [if_neg hc]
    obtain ⟨a, i1, h1, e1, c1, a0, a1⟩ := draw_byte l hl i h hi
    obtain ⟨b, i2, h2, e2, c2, b0, b1⟩ := draw_byte l hl i1 h1 c1
    obtain ⟨c, i3, h3, e3, c3, x0, x1⟩ := draw_byte l hl i2 h2 c2
    obtain ⟨d, i4, h4, e4, c4, d0, d1⟩ := draw_byte l hl i3 h3 c3
    simp only [e1, e2, e3, e4, Option.bind_some]
    rw [if_neg (by omega)]
    refine ⟨_, _, _, rfl, c4, ?_⟩
    rw [wrap_id (x := a * 16777216) (by omega) (by omega), wrap_id (x := b * 65536) (by omega) (by omega), wrap_id (x := c * 256) (by omega) (by omega),
      wrap_id (x := a * 16777216 + b * 65536) (by omega) (by omega), wrap_id (x := a * 16777216 + b * 65536 + c * 256) (by omega) (by omega), wrap_id (by omega) (by omega)]
    exact tmod_low _ n (by omega) hn
theorem draw_once (l : List Int) (hl : l.length ≤ 1048576) (i h n : Int) (hi : Cur l i) (hn : 0 < n) : ∃ v i' h', spec_l01Once.f l i h n = some (v, i', h') ∧ Cur l i' := by
  unfold spec_l01Once.f
  obtain ⟨v, i1, h1, e, c1, _⟩ := draw_below l hl i h n hi hn
  rw [e]
  exact ⟨_, _, _, rfl, c1⟩
theorem draw_pick (l : List Int) (hl : l.length ≤ 1048576) (i h : Int) (m : List Int) (hi : Cur l i) (hm : 0 < m.length) : ∃ v i' h', spec_l01PickInt.f l i h m = some (v, i', h') ∧ Cur l i' ∧ v ∈ m := by
  unfold spec_l01PickInt.f
  obtain ⟨v, i1, h1, e, c1, v0, v1⟩ := draw_below l hl i h (m.length : Int) hi (by omega)
  rw [e]
  simp only [Option.bind_some]
  rw [if_pos v0, if_pos v1]
  refine ⟨_, _, _, rfl, c1, ?_⟩
  obtain ⟨n, rfl⟩ := Int.eq_ofNat_of_zero_le v0
  rw [rd_lt m n (by omega)]
  exact List.getElem_mem _
theorem rdOf_lt (l : List ByteArray) (i : Nat) (h : i < l.length) : rdOf ByteArray.empty l (i : Int) = l[i] := by
  unfold rdOf
  rw [Int.toNat_natCast, List.getD_eq_getElem?_getD, List.getElem?_eq_getElem h]
  rfl
theorem draw_pickS (l : List Int) (hl : l.length ≤ 1048576) (i h : Int) (m : List ByteArray) (hi : Cur l i) (hm : 0 < m.length) : ∃ v i' h', spec_l01Pick.f l i h m = some (v, i', h') ∧ Cur l i' ∧ v ∈ m := by
  unfold spec_l01Pick.f
  obtain ⟨v, i1, h1, e, c1, v0, v1⟩ := draw_below l hl i h (m.length : Int) hi (by omega)
  rw [e]
  simp only [Option.bind_some]
  rw [if_pos v0, if_pos v1]
  refine ⟨_, _, _, rfl, c1, ?_⟩
  obtain ⟨n, rfl⟩ := Int.eq_ofNat_of_zero_le v0
  rw [rdOf_lt m n (by omega)]
  exact List.getElem_mem _
def repB (s : S51) : Bool := decide (s.f0.toList = ([114, 101, 112, 101, 97, 116] : List UInt8))
def endB (s : S51) : Bool := decide (s.f0.toList = ([101, 110, 100] : List UInt8))
def cntB (l : List S51) (i : Nat) : Bool := !decide (i = 0) && (decide ((rd_T51 l ((i - 1 : Nat) : Int)).f0.toList = ([] : List UInt8)) && decide (0 ≤ (rd_T51 l ((i - 1 : Nat) : Int)).f1 ∧ (rd_T51 l ((i - 1 : Nat) : Int)).f1 ≤ 9))
def tokAt (l : List S51) (i : Nat) : Bool := tokenB (rd_T51 l (i : Int)).f0 (rd_T51 l (i : Int)).f1
theorem rd_size (l : List S51) (hs : ∀ x ∈ l, x.f0.size ≤ 1048576) (i : Nat) (hi : i < l.length) : (rd_T51 l (i : Int)).f0.size ≤ 1048577 := by
  rw [rdiToken_lt l i hi]
  have := hs l[i] (List.getElem_mem _)
  omega
theorem impl_tokens_loop (l : List S51) (hl : l.length ≤ 1048576) (hs : ∀ x ∈ l, x.f0.size ≤ 1048576) : ∀ (d i : Nat), i + d = l.length →
    Ev (fun k => impl_tokensOk.l0 k l (l.length : Int) (i : Int)) (allFrom (tokAt l) l.length i) := by
  intro d
  induction d with
  | zero =>
    intro i hi
    refine Ev.step (fun k => impl_tokensOk.l0.eq_2 _ _ _ k) ?_
    simp only [if_neg (show ¬ (i : Int) < (l.length : Int) by omega)]
    rw [show i = l.length by omega, all_end]
    exact Ev.now _
  | succ d ih =>
    intro i hi
    refine Ev.step (fun k => impl_tokensOk.l0.eq_2 _ _ _ k) ?_
    simp only [if_pos (show (i : Int) < (l.length : Int) by omega), if_pos (show (0 : Int) ≤ (i : Int) by omega)]
    rw [wrap_succ i (by omega), all_step _ _ _ (show i < l.length by omega)]
    refine Ev.bind (impl_token _ _ (rd_size l hs i (by omega))) ?_
    change Ev (fun k => if tokAt l i = true then _ else _) _
    cases tokAt l i with
    | false =>
      simp only [Bool.false_eq_true, if_false, Bool.false_and]
      exact Ev.now _
    | true =>
      simp only [if_true, Bool.true_and]
      exact ih (i + 1) (by omega)
theorem impl_tokens (l : List S51) (hl : l.length ≤ 1048576) (hs : ∀ x ∈ l, x.f0.size ≤ 1048576) : Ev (fun k => impl_tokensOk.f k l) (allFrom (tokAt l) l.length 0) := by
  unfold impl_tokensOk.f
  exact impl_tokens_loop l hl hs l.length 0 (by omega)
def boM (l : List S51) : Nat → Nat → Int → Bool
  | 0, _, d => d == 0
  | r + 1, i, d => if repB (rd_T51 l (i : Int)) = true then (if cntB l i = true then (if d + 1 > 3 then false else boM l r (i + 1) (d + 1)) else false)
      else if endB (rd_T51 l (i : Int)) = true then (if d - 1 < 0 then false else boM l r (i + 1) (d - 1)) else boM l r (i + 1) d
def bdM (l : List S51) : Nat → Nat → Int → Int → Int
  | 0, _, _, m => m
  | r + 1, i, d, m => if repB (rd_T51 l (i : Int)) = true then bdM l r (i + 1) (d + 1) (mx m (d + 1))
      else if endB (rd_T51 l (i : Int)) = true then bdM l r (i + 1) (d - 1) m else bdM l r (i + 1) d m
def okM (l : List S51) : Bool := decide (l.length ≤ 60) && (allFrom (tokAt l) l.length 0 && boM l l.length 0 0)
theorem wrap_pred (i : Nat) (h0 : 0 < i) (h : i < 4611686018427387904) : wrap64 ((i : Int) - 1) = ((i - 1 : Nat) : Int) := by
  rw [wrap_id (by omega) (by omega)]
  omega
theorem impl_bo_loop (l : List S51) (hl : l.length ≤ 1048576) : ∀ (r i : Nat) (d : Int), i + r = l.length → 0 ≤ d → d ≤ i →
    Ev (fun k => impl_BlocksOk.l0 k l d l (l.length : Int) (i : Int)) (boM l r i d) := by
  intro r
  induction r with
  | zero =>
    intro i d hi h0 h1
    refine Ev.step (fun k => impl_BlocksOk.l0.eq_2 _ _ _ _ _ k) ?_
    simp only [if_neg (show ¬ (i : Int) < (l.length : Int) by omega)]
    exact Ev.now _
  | succ r ih =>
    intro i d hi h0 h1
    refine Ev.step (fun k => impl_BlocksOk.l0.eq_2 _ _ _ _ _ k) ?_
    simp only [if_pos (show (i : Int) < (l.length : Int) by omega), if_pos (show (0 : Int) ≤ (i : Int) by omega)]
    rw [wrap_succ i (by omega), wrap_id (x := d - 1) (by omega) (by omega), boM]
    have hj (b : Bool) : Ev (fun k => impl_BlocksOk.j2 k l d l (l.length : Int) (i : Int) (!b)) (if b = true then (if d + 1 > 3 then false else boM l r (i + 1) (d + 1)) else false) := by
      refine Ev.step (fun k => impl_BlocksOk.j2.eq_2 _ _ _ _ _ _ k) ?_
      rw [wrap_succ i (by omega), wrap_id (x := d + 1) (by omega) (by omega)]
      cases b with
      | false =>
        simp only [Bool.not_false, Bool.false_eq_true, if_true, if_false]
        exact Ev.now _
      | true =>
        simp only [Bool.not_true, Bool.false_eq_true, if_true, if_false]
        by_cases h3 : d + 1 > 3
        · simp only [if_pos h3]
          exact Ev.now _
        · simp only [if_neg h3]
          exact ih (i + 1) (d + 1) (by omega) (by omega) (by omega)
    by_cases hr : (rd_T51 l (i : Int)).f0.toList = ([114, 101, 112, 101, 97, 116] : List UInt8)
    · simp only [if_pos hr, repB, decide_eq_true hr, if_true]
      by_cases hz : i = 0
      · subst hz
        simp only [if_pos (show ((0 : Nat) : Int) = 0 by omega)]
        exact hj false
      · rw [wrap_pred i (by omega) (by omega)]
        simp only [if_neg (show ¬ (i : Int) = 0 by omega), if_pos (show (0 : Int) ≤ ((i - 1 : Nat) : Int) by omega), if_pos (show ((i - 1 : Nat) : Int) < (l.length : Int) by omega)]
        by_cases hn : (rd_T51 l ((i - 1 : Nat) : Int)).f0.toList = ([] : List UInt8)
        · simp only [if_pos hn, impl_in, Option.bind_some]
          have e : cntB l i = decide (0 ≤ (rd_T51 l ((i - 1 : Nat) : Int)).f1 ∧ (rd_T51 l ((i - 1 : Nat) : Int)).f1 ≤ 9) := by
            unfold cntB
            rw [decide_eq_false hz, decide_eq_true hn, Bool.not_false, Bool.true_and, Bool.true_and]
          rw [e]
          exact hj _
        · simp only [if_neg hn]
          have e : cntB l i = false := by
            unfold cntB
            rw [decide_eq_false hn, Bool.false_and, Bool.and_false]
          rw [e]
          exact hj false
    · simp only [if_neg hr, repB, decide_eq_false hr, Bool.false_eq_true, if_false]
      by_cases he : (rd_T51 l (i : Int)).f0.toList = ([101, 110, 100] : List UInt8)
      · simp only [if_pos he, endB, decide_eq_true he, if_true]
        by_cases h3 : d - 1 < 0
        · simp only [if_pos h3]
          exact Ev.now _
        · simp only [if_neg h3]
          exact ih (i + 1) (d - 1) (by omega) (by omega) (by omega)
      · simp only [if_neg he, endB, decide_eq_false he, Bool.false_eq_true, if_false]
        exact ih (i + 1) d (by omega) (by omega) (by omega)
theorem impl_blocks (l : List S51) (hl : l.length ≤ 1048576) (hs : ∀ x ∈ l, x.f0.size ≤ 1048576) : Ev (fun k => impl_BlocksOk.f k l) (okM l) := by
  unfold impl_BlocksOk.f okM
  have hj (b : Bool) : Ev (fun k => impl_BlocksOk.j0 k l (!b)) (b && boM l l.length 0 0) := by
    refine Ev.step (fun k => impl_BlocksOk.j0.eq_2 _ _ k) ?_
    cases b with
    | false =>
      simp only [Bool.not_false, Bool.false_and, if_true]
      exact Ev.now _
    | true =>
      simp only [Bool.not_true, Bool.true_and, Bool.false_eq_true, if_false]
      exact impl_bo_loop l hl l.length 0 0 (by omega) (by omega) (by omega)
  by_cases h : (l.length : Int) > 60
  · simp only [if_pos h, decide_eq_false (show ¬ l.length ≤ 60 by omega), Bool.false_and]
    exact hj false
  · simp only [if_neg h, decide_eq_true (show l.length ≤ 60 by omega), Bool.true_and]
    refine Ev.bind (impl_tokens l hl hs) ?_
    exact hj _
/-- Blocks, well put together, of depth d at most, and what they flatten to. -/
inductive Sq : Nat → List S51 → List S51 → Prop where
  | nil (d : Nat) : Sq d [] []
  | tok (d : Nat) (t : S51) (r f : List S51) (h1 : repB t = false) (h2 : endB t = false) (h3 : ∀ u v, r = u :: v → repB u = false) (h4 : Sq d r f) : Sq d (t :: r) (t :: f)
  | blk (d : Nat) (c R E : S51) (b r fb fr : List S51) (h0 : 0 ≤ c.f1) (h9 : c.f1 ≤ 9) (hc : c.f0.toList = ([] : List UInt8)) (hR : repB R = true) (hE : endB E = true) (h1 : Sq d b fb) (h2 : Sq (d + 1) r fr) : Sq (d + 1) (c :: R :: (b ++ E :: r)) ((List.replicate c.f1.toNat fb).flatten ++ fr)
theorem rep_not_end (t : S51) (h : repB t = true) : endB t = false := by
  unfold repB at h
  unfold endB
  rw [of_decide_eq_true h]
  decide
theorem end_not_rep (t : S51) (h : endB t = true) : repB t = false := by
  unfold endB at h
  unfold repB
  rw [of_decide_eq_true h]
  decide
theorem num_plain (c : S51) (h : c.f0.toList = ([] : List UInt8)) : repB c = false ∧ endB c = false := by
  unfold repB endB
  rw [h]
  exact ⟨by decide, by decide⟩
theorem flat_rep (n : Nat) (f : List S51) : ((List.replicate n f).flatten).length = n * f.length := by
  rw [List.length_flatten, List.map_replicate, List.sum_replicate_nat]
theorem sq_len : ∀ {d : Nat} {s f : List S51}, Sq d s f → f.length ≤ s.length * 9 ^ d := by
  intro d s f h
  induction h with
  | nil d => simp
  | tok d t r f h1 h2 h3 h4 ih =>
    simp only [List.length_cons]
    have : 1 ≤ 9 ^ d := Nat.one_le_pow _ _ (by omega)
    rw [Nat.add_mul]
    omega
  | blk d c R E b r fb fr h0 h9 hc hR hE h1 h2 ih1 ih2 =>
    rw [List.length_append, flat_rep]
    simp only [List.length_cons, List.length_append]
    have hn : c.f1.toNat ≤ 9 := by omega
    have e1 : c.f1.toNat * fb.length ≤ b.length * 9 ^ (d + 1) := by
      calc c.f1.toNat * fb.length ≤ 9 * (b.length * 9 ^ d) := Nat.mul_le_mul hn ih1
        _ = b.length * 9 ^ (d + 1) := by rw [Nat.pow_succ, Nat.mul_left_comm, Nat.mul_comm 9]
    have e2 : (b.length + (r.length + 1) + 1 + 1) * 9 ^ (d + 1) = b.length * 9 ^ (d + 1) + r.length * 9 ^ (d + 1) + 3 * 9 ^ (d + 1) := by
      rw [show b.length + (r.length + 1) + 1 + 1 = b.length + r.length + 3 by omega, Nat.add_mul, Nat.add_mul]
    omega
theorem rd_mid (pre r : List S51) (t : S51) : rd_T51 (pre ++ t :: r) (pre.length : Int) = t := by
  rw [rdiToken_lt _ _ (by rw [List.length_append, List.length_cons]; omega), List.getElem_append_right (Nat.le_refl _)]
  simp
theorem rep_of (t : S51) : repB t = true ↔ t.f0.toList = ([114, 101, 112, 101, 97, 116] : List UInt8) := by
  unfold repB
  exact decide_eq_true_iff
theorem end_of (t : S51) : endB t = true ↔ t.f0.toList = ([101, 110, 100] : List UInt8) := by
  unfold endB
  exact decide_eq_true_iff
/-- One repetition less. -/
theorem rep_succ (n : Nat) (f out : List S51) : out ++ f ++ (List.replicate n f).flatten = out ++ (List.replicate (n + 1) f).flatten := by
  rw [List.replicate_succ, List.flatten_cons, List.append_assoc]
/-- There is room for a block and what follows it. -/
theorem sq_room (d : Nat) (c : S51) (b r fb out : List S51) (h9 : c.f1 ≤ 9) (hfb : fb.length ≤ b.length * 9 ^ d) (ho : out.length + (b.length + (r.length + 1) + 1 + 1) * 9 ^ (d + 1) ≤ 1000000) :
    (out ++ (List.replicate c.f1.toNat fb).flatten).length + r.length * 9 ^ (d + 1) ≤ 1000000 ∧ out.length + c.f1.toNat * fb.length ≤ 1000000 ∧ ([] : List S51).length + b.length * 9 ^ d ≤ 1000000 ∧ fb.length ≤ 1000000 ∧ out.length ≤ 1000000 := by
  have hm : c.f1.toNat * fb.length ≤ 9 * (b.length * 9 ^ d) := Nat.mul_le_mul (by omega) hfb
  have e2 : (b.length + (r.length + 1) + 1 + 1) * 9 ^ (d + 1) = 9 * (b.length * 9 ^ d) + r.length * 9 ^ (d + 1) + 3 * 9 ^ (d + 1) := by
    rw [show b.length + (r.length + 1) + 1 + 1 = b.length + r.length + 3 by omega, Nat.add_mul, Nat.add_mul]
    congr 2
    rw [Nat.pow_succ, Nat.mul_comm (9 ^ d) 9, Nat.mul_left_comm]
  rw [e2] at ho
  rw [List.length_append, flat_rep, List.length_nil]
  generalize c.f1.toNat * fb.length = M at *
  generalize b.length * 9 ^ d = B at *
  generalize r.length * 9 ^ (d + 1) = C at *
  generalize 3 * 9 ^ (d + 1) = D at *
  omega
/-- A valid token, by its parts. -/
def VT (x : S51) : Prop := (x.f0 = ⟨#[]⟩ ∧ -999 ≤ x.f1 ∧ x.f1 ≤ 999) ∨ (nameB x.f0 = true ∧ x.f1 = 0)
theorem names_ok : ∀ v ∈ ([(⟨#[109, 111, 118, 101, 116, 111]⟩ : ByteArray), (⟨#[108, 105, 110, 101, 116, 111]⟩ : ByteArray), (⟨#[102, 105, 108, 108]⟩ : ByteArray), (⟨#[103, 114, 97, 121]⟩ : ByteArray), (⟨#[114, 101, 99, 116]⟩ : ByteArray), (⟨#[115, 97, 118, 101]⟩ : ByteArray), (⟨#[114, 101, 115, 116, 111, 114, 101]⟩ : ByteArray), (⟨#[115, 104, 105, 102, 116]⟩ : ByteArray), (⟨#[116, 117, 114, 110]⟩ : ByteArray), (⟨#[115, 99, 97, 108, 101]⟩ : ByteArray), (⟨#[99, 108, 105, 112]⟩ : ByteArray), (⟨#[97, 100, 100]⟩ : ByteArray), (⟨#[115, 117, 98]⟩ : ByteArray), (⟨#[100, 117, 112]⟩ : ByteArray), (⟨#[112, 111, 112]⟩ : ByteArray), (⟨#[101, 120, 99, 104]⟩ : ByteArray), (⟨#[110, 101, 119]⟩ : ByteArray)] : List ByteArray), nameB v = true := by
  intro v hv
  simp only [List.mem_cons, List.not_mem_nil, or_false] at hv
  rcases hv with rfl | rfl | rfl | rfl | rfl | rfl | rfl | rfl | rfl | rfl | rfl | rfl | rfl | rfl | rfl | rfl | rfl <;> decide +kernel
theorem names_plain : ∀ v ∈ ([(⟨#[109, 111, 118, 101, 116, 111]⟩ : ByteArray), (⟨#[108, 105, 110, 101, 116, 111]⟩ : ByteArray), (⟨#[102, 105, 108, 108]⟩ : ByteArray), (⟨#[103, 114, 97, 121]⟩ : ByteArray), (⟨#[114, 101, 99, 116]⟩ : ByteArray), (⟨#[115, 97, 118, 101]⟩ : ByteArray), (⟨#[114, 101, 115, 116, 111, 114, 101]⟩ : ByteArray), (⟨#[115, 104, 105, 102, 116]⟩ : ByteArray), (⟨#[116, 117, 114, 110]⟩ : ByteArray), (⟨#[115, 99, 97, 108, 101]⟩ : ByteArray), (⟨#[99, 108, 105, 112]⟩ : ByteArray), (⟨#[97, 100, 100]⟩ : ByteArray), (⟨#[115, 117, 98]⟩ : ByteArray), (⟨#[100, 117, 112]⟩ : ByteArray), (⟨#[112, 111, 112]⟩ : ByteArray), (⟨#[101, 120, 99, 104]⟩ : ByteArray), (⟨#[110, 101, 119]⟩ : ByteArray)] : List ByteArray), ¬ v.toList = ([114, 101, 112, 101, 97, 116] : List UInt8) ∧ ¬ v.toList = ([101, 110, 100] : List UInt8) := by
  intro v hv
  rw [Lib.toList_data]
  simp only [List.mem_cons, List.not_mem_nil, or_false] at hv
  rcases hv with rfl | rfl | rfl | rfl | rfl | rfl | rfl | rfl | rfl | rfl | rfl | rfl | rfl | rfl | rfl | rfl | rfl <;> decide +kernel
theorem draw_token2 (l : List Int) (hl : l.length ≤ 1048576) (i h : Int) (hi : Cur l i) : ∃ (x : S51) (i' h' : Int), spec_l04Token.f l i h = some (x.f0, x.f1, i', h') ∧ Cur l i' ∧ VT x ∧ repB x = false ∧ endB x = false := by
  unfold spec_l04Token.f spec_l04Names.f
  obtain ⟨b, i1, h1, e1, c1⟩ := draw_once l hl i h 2 hi (by omega)
  rw [e1]
  simp only [Option.bind_some]
  cases b with
  | true =>
    obtain ⟨u, i2, h2, e2, c2, u0, u1⟩ := draw_below l hl i1 h1 33 c1 (by omega)
    obtain ⟨v, i3, h3, e3, c3, v0, v1⟩ := draw_below l hl i2 h2 33 c2 (by omega)
    obtain ⟨z, i4, h4, e4, c4, hz⟩ := draw_pick l hl i3 h3 [0, 8, u, v, (-4)] c3 (by simp)
    refine ⟨⟨⟨#[]⟩, z⟩, i4, h4, ?_, c4, Or.inl ⟨rfl, ?_⟩, num_plain _ ((Lib.toList_data _).trans rfl)⟩
    · simp only [if_true, e2, e3, e4, Option.bind_some]
    · simp only [List.mem_cons, List.not_mem_nil, or_false] at hz
      show -999 ≤ z ∧ z ≤ 999
      omega
  | false =>
    obtain ⟨z, i4, h4, e4, c4, hz⟩ := draw_pickS l hl i1 h1 _ c1 (show 0 < ([(⟨#[109, 111, 118, 101, 116, 111]⟩ : ByteArray), (⟨#[108, 105, 110, 101, 116, 111]⟩ : ByteArray), (⟨#[102, 105, 108, 108]⟩ : ByteArray), (⟨#[103, 114, 97, 121]⟩ : ByteArray), (⟨#[114, 101, 99, 116]⟩ : ByteArray), (⟨#[115, 97, 118, 101]⟩ : ByteArray), (⟨#[114, 101, 115, 116, 111, 114, 101]⟩ : ByteArray), (⟨#[115, 104, 105, 102, 116]⟩ : ByteArray), (⟨#[116, 117, 114, 110]⟩ : ByteArray), (⟨#[115, 99, 97, 108, 101]⟩ : ByteArray), (⟨#[99, 108, 105, 112]⟩ : ByteArray), (⟨#[97, 100, 100]⟩ : ByteArray), (⟨#[115, 117, 98]⟩ : ByteArray), (⟨#[100, 117, 112]⟩ : ByteArray), (⟨#[112, 111, 112]⟩ : ByteArray), (⟨#[101, 120, 99, 104]⟩ : ByteArray), (⟨#[110, 101, 119]⟩ : ByteArray)] : List ByteArray).length by simp)
    refine ⟨⟨z, 0⟩, i4, h4, ?_, c4, Or.inr ⟨names_ok z hz, rfl⟩, decide_eq_false (names_plain z hz).1, decide_eq_false (names_plain z hz).2⟩
    simp only [Bool.false_eq_true, if_false, e4, Option.bind_some]
theorem mx_ge (a b : Int) : a ≤ mx a b ∧ b ≤ mx a b ∧ (mx a b = a ∨ mx a b = b) := by
  unfold mx
  split <;> omega
def depthM (l : List S51) : Int := if okM l = true then bdM l l.length 0 0 0 else -1
theorem impl_bd_loop (l : List S51) (hl : l.length ≤ 1048576) : ∀ (r i : Nat) (d m : Int), i + r = l.length → -(i : Int) ≤ d → d ≤ i →
    Ev (fun k => impl_BlockDepth.l0 k d m l (l.length : Int) (i : Int)) (bdM l r i d m) := by
  intro r
  induction r with
  | zero =>
    intro i d m hi h0 h1
    refine Ev.step (fun k => impl_BlockDepth.l0.eq_2 _ _ _ _ _ k) ?_
    simp only [if_neg (show ¬ (i : Int) < (l.length : Int) by omega)]
    exact Ev.now _
  | succ r ih =>
    intro i d m hi h0 h1
    refine Ev.step (fun k => impl_BlockDepth.l0.eq_2 _ _ _ _ _ k) ?_
    simp only [if_pos (show (i : Int) < (l.length : Int) by omega), if_pos (show (0 : Int) ≤ (i : Int) by omega)]
    rw [wrap_succ i (by omega), wrap_id (x := d - 1) (by omega) (by omega), wrap_id (x := d + 1) (by omega) (by omega), bdM]
    by_cases hr : (rd_T51 l (i : Int)).f0.toList = ([114, 101, 112, 101, 97, 116] : List UInt8)
    · simp only [if_pos hr, repB, decide_eq_true hr, if_true]
      exact ih (i + 1) (d + 1) _ (by omega) (by omega) (by omega)
    · simp only [if_neg hr, repB, decide_eq_false hr, Bool.false_eq_true, if_false]
      by_cases he : (rd_T51 l (i : Int)).f0.toList = ([101, 110, 100] : List UInt8)
      · simp only [if_pos he, endB, decide_eq_true he, if_true]
        exact ih (i + 1) (d - 1) m (by omega) (by omega) (by omega)
      · simp only [if_neg he, endB, decide_eq_false he, Bool.false_eq_true, if_false]
        exact ih (i + 1) d m (by omega) (by omega) (by omega)
theorem impl_depth (l : List S51) (hl : l.length ≤ 1048576) (hs : ∀ x ∈ l, x.f0.size ≤ 1048576) : Ev (fun k => impl_BlockDepth.f k l) (depthM l) := by
  unfold impl_BlockDepth.f depthM
  refine Ev.bind (impl_blocks l hl hs) ?_
  cases okM l with
  | false =>
    simp only [Bool.false_eq_true, if_false]
    exact Ev.now _
  | true =>
    simp only [if_true]
    exact impl_bd_loop l hl l.length 0 0 0 (by omega) (by omega) (by omega)
/-- The reading of blocks by depth, over lists: p is the token before. -/
def cntL : Option S51 → Bool
  | none => false
  | some q => decide (q.f0.toList = ([] : List UInt8)) && decide (0 ≤ q.f1 ∧ q.f1 ≤ 9)
def boL : Option S51 → List S51 → Int → Bool
  | _, [], d => d == 0
  | p, t :: r, d => if repB t = true then (if cntL p = true then (if d + 1 > 3 then false else boL (some t) r (d + 1)) else false)
      else if endB t = true then (if d - 1 < 0 then false else boL (some t) r (d - 1)) else boL (some t) r d
theorem bo_lists (l : List S51) : ∀ (r i : Nat) (d : Int), i + r = l.length → boM l r i d = boL (if i = 0 then none else l[i - 1]?) (l.drop i) d := by
  intro r
  induction r with
  | zero =>
    intro i d hi
    rw [List.drop_of_length_le (by omega)]
    rfl
  | succ r ih =>
    intro i d hi
    have hil : i < l.length := by omega
    rw [List.drop_eq_getElem_cons hil, boM, boL, rdiToken_lt l i hil]
    have hc : cntB l i = cntL (if i = 0 then none else l[i - 1]?) := by
      unfold cntB
      by_cases h0 : i = 0
      · rw [if_pos h0, h0]
        rfl
      · rw [if_neg h0, rdiToken_lt l (i - 1) (by omega), List.getElem?_eq_getElem (by omega), decide_eq_false h0]
        rfl
    have hn : (if i + 1 = 0 then none else l[i + 1 - 1]?) = some l[i] := by
      rw [if_neg (by omega), show i + 1 - 1 = i by omega, List.getElem?_eq_getElem hil]
    rw [hc, ih (i + 1) (d + 1) (by omega), ih (i + 1) (d - 1) (by omega), ih (i + 1) d (by omega), hn]
theorem bo_parse : ∀ (n : Nat) (l : List S51) (p : Option S51) (d : Nat), l.length ≤ n → d ≤ 3 → boL p l (d : Int) = true → (∀ t r, l = t :: r → repB t = true → cntL p = false) →
    ∃ s f rest, l = s ++ rest ∧ Sq (3 - d) s f ∧ (d = 0 → rest = []) ∧ (d ≠ 0 → ∃ E r', rest = E :: r' ∧ endB E = true ∧ boL (some E) r' ((d : Int) - 1) = true) := by
  intro n
  induction n with
  | zero =>
    intro l p d hl hd hb hp
    obtain rfl : l = [] := List.length_eq_zero_iff.1 (by omega)
    have h0 : d = 0 := by
      have : ((d : Int) == 0) = true := hb
      rw [beq_iff_eq] at this
      omega
    exact ⟨[], [], [], rfl, Sq.nil _, fun _ => rfl, fun h => absurd h0 h⟩
  | succ n ih =>
    intro l p d hl hd hb hp
    cases l with
    | nil =>
      have h0 : d = 0 := by
        have : ((d : Int) == 0) = true := hb
        rw [beq_iff_eq] at this
        omega
      exact ⟨[], [], [], rfl, Sq.nil _, fun _ => rfl, fun h => absurd h0 h⟩
    | cons t r =>
      rw [boL] at hb
      by_cases hr : repB t = true
      · rw [if_pos hr, hp t r rfl hr, if_neg (by decide)] at hb
        cases hb
      · rw [if_neg hr] at hb
        have hrf : repB t = false := by simpa using hr
        by_cases he : endB t = true
        · rw [if_pos he] at hb
          by_cases hd1 : (d : Int) - 1 < 0
          · rw [if_pos hd1] at hb
            cases hb
          · rw [if_neg hd1] at hb
            exact ⟨[], [], t :: r, rfl, Sq.nil _, fun h => by omega, fun _ => ⟨t, r, rfl, he, hb⟩⟩
        · rw [if_neg he] at hb
          have hef : endB t = false := by simpa using he
          cases r with
          | nil =>
            obtain ⟨s, f, rest, e, hs, h0, h1⟩ := ih [] (some t) d (by simp) hd hb (fun _ _ h => by cases h)
            have es : s = [] := (List.append_eq_nil_iff.1 e.symm).1
            subst es
            have er : rest = [] := (List.append_eq_nil_iff.1 e.symm).2
            subst er
            exact ⟨[t], t :: f, [], rfl, Sq.tok _ t [] f hrf hef (fun _ _ h => by cases h) hs, h0, h1⟩
          | cons u r =>
            by_cases hu : repB u = true
            · rw [boL, if_pos hu] at hb
              by_cases hc : cntL (some t) = true
              · rw [if_pos hc] at hb
                by_cases h3 : (d : Int) + 1 > 3
                · rw [if_pos h3] at hb
                  cases hb
                · rw [if_neg h3] at hb
                  unfold cntL at hc
                  rw [Bool.and_eq_true] at hc
                  have hc1 := of_decide_eq_true hc.1
                  have hc2 := of_decide_eq_true hc.2
                  have hnot : ∀ (E : S51), (repB E = true ∨ endB E = true) → cntL (some E) = false := by
                    intro E hE
                    show (decide (E.f0.toList = ([] : List UInt8)) && decide (0 ≤ E.f1 ∧ E.f1 ≤ 9)) = false
                    rw [decide_eq_false, Bool.false_and]
                    intro hn
                    have := num_plain E hn
                    rcases hE with h | h
                    · rw [this.1] at h; cases h
                    · rw [this.2] at h; cases h
                  have hb2 : boL (some u) r ((d + 1 : Nat) : Int) = true := by
                    rw [show ((d + 1 : Nat) : Int) = (d : Int) + 1 by omega]
                    exact hb
                  simp only [List.length_cons] at hl
                  obtain ⟨s1, f1, rest1, e1, hs1, _, hr1⟩ := ih r (some u) (d + 1) (by omega) (by omega) hb2 (fun _ _ _ _ => hnot u (Or.inl hu))
                  obtain ⟨E, r2, er1, hE, hb3⟩ := hr1 (by omega)
                  rw [show ((d + 1 : Nat) : Int) - 1 = (d : Int) by omega] at hb3
                  have hr2 : r2.length ≤ n := by
                    have := congrArg List.length e1
                    rw [er1, List.length_append, List.length_cons] at this
                    omega
                  obtain ⟨s2, f2, rest2, e2, hs2, h0, h1⟩ := ih r2 (some E) d hr2 hd hb3 (fun _ _ _ _ => hnot E (Or.inr hE))
                  refine ⟨t :: u :: (s1 ++ E :: s2), (List.replicate t.f1.toNat f1).flatten ++ f2, rest2, ?_, ?_, h0, h1⟩
                  · rw [e1, er1, e2]
                    simp
                  · obtain ⟨m, hm⟩ : ∃ m, 3 - d = m + 1 := ⟨2 - d, by omega⟩
                    rw [hm] at hs2 ⊢
                    rw [show 3 - (d + 1) = m by omega] at hs1
                    exact Sq.blk m t u E s1 s2 f1 f2 hc2.1 hc2.2 hc1 hu hE hs1 hs2
              · rw [if_neg hc] at hb
                cases hb
            · have huf : repB u = false := by simpa using hu
              obtain ⟨s, f, rest, e, hs, h0, h1⟩ := ih (u :: r) (some t) d (by simp only [List.length_cons] at hl ⊢; omega) hd hb (fun t' r' h ht => by
                have := (List.cons.inj h).1
                rw [← this, huf] at ht
                cases ht)
              refine ⟨t :: s, t :: f, rest, by rw [e]; rfl, Sq.tok _ t s f hrf hef (fun u' v' hs' => ?_) hs, h0, h1⟩
              rw [hs'] at e
              have := (List.cons.inj e).1
              rw [← this]
              exact huf
/-- Valid blocks are well put together. -/
theorem ok_sq (l : List S51) (h : okM l = true) : l.length ≤ 60 ∧ ∃ f, Sq 3 l f := by
  unfold okM at h
  rw [Bool.and_eq_true, Bool.and_eq_true] at h
  refine ⟨of_decide_eq_true h.1, ?_⟩
  have hb := h.2.2
  rw [bo_lists l l.length 0 0 (by omega)] at hb
  simp only [if_true, List.drop_zero] at hb
  obtain ⟨s, f, rest, e, hs, h0, _⟩ := bo_parse l.length l none 0 (Nat.le_refl _) (by omega) hb (fun _ _ _ _ => rfl)
  rw [h0 rfl, List.append_nil] at e
  subst e
  exact ⟨f, hs⟩
theorem impl_reps (L : List S51) (e : Nat) (fb : List S51) (x : List S51 × Int) (hf : fb.length ≤ 1000000) : ∀ (n : Nat) (out : List S51), n ≤ 9 → out.length + n * fb.length ≤ 1000000 →
    Ev (fun k => impl_flat.l0 k L (wrap64 ((e : Int) + 1)) (out ++ (List.replicate n fb).flatten)) x → Ev (fun k => impl_flat.l1 k L out (n : Int) fb (e : Int)) x := by
  intro n
  induction n with
  | zero =>
    intro out hn ho h
    refine Ev.step (fun k => impl_flat.l1.eq_2 _ _ _ _ _ k) ?_
    simp only [if_neg (show ¬ ((0 : Nat) : Int) > 0 by omega)]
    simpa using h
  | succ n ih =>
    intro out hn ho h
    rw [Nat.add_mul] at ho
    have hw : wrap64 (((n + 1 : Nat) : Int) - 1) = (n : Int) := by rw [wrap_id (by omega) (by omega)]; omega
    refine Ev.step (fun k => impl_flat.l1.eq_2 _ _ _ _ _ k) ?_
    simp only [if_pos (show ((n + 1 : Nat) : Int) > 0 by omega), if_pos (show out.length + fb.length < 5864062014805 by omega), hw]
    refine ih (out ++ fb) (by omega) (by rw [List.length_append]; omega) ?_
    rw [rep_succ]
    exact h
theorem impl_stop (L out : List S51) (i : Nat) (h : i = L.length ∨ ∃ E pre r, L = pre ++ E :: r ∧ pre.length = i ∧ endB E = true) : Ev (fun k => impl_flat.l0 k L (i : Int) out) (out, (i : Int)) := by
  have stop : Ev (fun k => impl_flat.j1 k L (i : Int) out false) (out, (i : Int)) := by
    refine Ev.step (fun k => impl_flat.j1.eq_2 _ _ _ _ k) ?_
    simp only [Bool.false_eq_true, if_false, impl_Token.f, Option.bind_some]
    exact Ev.now _
  refine Ev.step (fun k => impl_flat.l0.eq_2 _ _ _ k) ?_
  rcases h with h | ⟨E, pre, r, hL, hp, hE⟩
  · simp only [if_neg (show ¬ (i : Int) < (L.length : Int) by omega)]
    exact stop
  · have hlen : L.length = pre.length + (r.length + 1) := by rw [hL]; simp
    have hr : rd_T51 L (i : Int) = E := by rw [hL, ← hp]; exact rd_mid pre r E
    have e : (E.f0.toList != ([101, 110, 100] : List UInt8)) = false := by
      rw [(end_of E).1 hE]
      decide
    simp only [if_pos (show (i : Int) < (L.length : Int) by omega), if_pos (show (0 : Int) ≤ (i : Int) by omega), hr, e]
    exact stop
theorem impl_put (L pre r out : List S51) (t : S51) (x : List S51 × Int) (hL : L = pre ++ t :: r) (hl : L.length ≤ 1000) (ho : out.length ≤ 1000000) (h1 : repB t = false) (h2 : endB t = false)
    (h : Ev (fun k => impl_flat.l0 k L ((pre.length + 1 : Nat) : Int) (out ++ [t])) x) : Ev (fun k => impl_flat.l0 k L (pre.length : Int) out) x := by
  have hlen : L.length = pre.length + (r.length + 1) := by rw [hL]; simp
  have hr : rd_T51 L (pre.length : Int) = t := by rw [hL]; exact rd_mid pre r t
  have e : (t.f0.toList != ([101, 110, 100] : List UInt8)) = true := by
    rw [bne_iff_ne]
    intro he
    rw [(end_of t).2 he] at h2
    cases h2
  refine Ev.step (fun k => impl_flat.l0.eq_2 _ _ _ k) ?_
  simp only [if_pos (show (pre.length : Int) < (L.length : Int) by omega), if_pos (show (0 : Int) ≤ (pre.length : Int) by omega), hr, e]
  refine Ev.step (fun k => impl_flat.j1.eq_2 _ _ _ _ k) ?_
  simp only [if_true, if_pos (show (0 : Int) ≤ (pre.length : Int) by omega), if_pos (show (pre.length : Int) < (L.length : Int) by omega), hr, ← rep_of, h1, Bool.false_eq_true, if_false, if_pos (show out.length < 5864062014805 by omega), wrap_succ pre.length (by omega)]
  exact h
set_option maxHeartbeats 4000000 in
theorem impl_flat_at : ∀ {d : Nat} {s f : List S51}, Sq d s f → ∀ (L pre post out : List S51) (x : List S51 × Int), L = pre ++ (s ++ post) → L.length ≤ 1000 → out.length + s.length * 9 ^ d ≤ 1000000 →
    Ev (fun k => impl_flat.l0 k L ((pre.length + s.length : Nat) : Int) (out ++ f)) x → Ev (fun k => impl_flat.l0 k L (pre.length : Int) out) x := by
  intro d s f h
  induction h with
  | nil d =>
    intro L pre post out x hL hl ho h
    simpa using h
  | tok d t r f h1 h2 h3 h4 ih =>
    intro L pre post out x hL hl ho h
    simp only [List.length_cons] at ho h
    have hp : 1 ≤ 9 ^ d := Nat.one_le_pow _ _ (by omega)
    rw [Nat.add_mul] at ho
    refine impl_put L pre (r ++ post) out t x (by rw [hL]; rfl) hl (by omega) h1 h2 ?_
    have := ih L (pre ++ [t]) post (out ++ [t]) x (by rw [hL]; simp) hl (by rw [List.length_append, List.length_singleton]; omega) (by
      rw [List.length_append, List.length_singleton, List.append_assoc, show pre.length + 1 + r.length = pre.length + (r.length + 1) by omega]
      exact h)
    rw [List.length_append, List.length_singleton] at this
    exact this
  | blk d c R E b r fb fr h0 h9 hc hR hE h1 h2 ih1 ih2 =>
    intro L pre post out x hL hl ho h
    simp only [List.length_cons, List.length_append] at ho h
    have hlen := congrArg List.length hL
    simp only [List.length_append, List.length_cons] at hlen
    have hcp := num_plain c hc
    obtain ⟨p2, p3, p1, hfb, hol1⟩ := sq_room d c b r fb out h9 (sq_len h1) ho
    have P1 := Aside0.mk p1
    have P2 := Aside0.mk p2
    have P3 := Aside0.mk p3
    clear ho p1 p2 p3
    have hL2 : L = (pre ++ [c]) ++ R :: ((b ++ E :: r) ++ post) := by rw [hL]; simp
    have hL3 : L = (pre ++ [c, R]) ++ (b ++ (E :: r ++ post)) := by rw [hL]; simp
    have hL4 : L = (pre ++ c :: R :: b) ++ E :: (r ++ post) := by rw [hL]; simp
    have hL5 : L = (pre ++ c :: R :: (b ++ [E])) ++ (r ++ post) := by rw [hL]; simp
    have r2 : rd_T51 L ((pre.length + 1 : Nat) : Int) = R := by
      have := rd_mid (pre ++ [c]) ((b ++ E :: r) ++ post) R
      rw [← hL2, List.length_append, List.length_singleton] at this
      exact this
    -- the block's inside
    have inner : Ev (fun k => impl_flat.f k L ((pre.length + 2 : Nat) : Int)) (fb, ((pre.length + 2 + b.length : Nat) : Int)) := by
      refine Ev.step (fun k => impl_flat.f.eq_2 _ _ k) ?_
      have := ih1 L (pre ++ [c, R]) (E :: r ++ post) [] (fb, ((pre.length + 2 + b.length : Nat) : Int)) hL3 hl P1.out (by
        rw [List.length_append, show [c, R].length = 2 from rfl, List.nil_append]
        exact impl_stop L fb _ (Or.inr ⟨E, pre ++ c :: R :: b, r ++ post, hL4, by simp only [List.length_append, List.length_cons]; omega, hE⟩))
      rw [List.length_append, show [c, R].length = 2 from rfl] at this
      exact this
    refine impl_put L pre (R :: (b ++ E :: r) ++ post) out c x (by rw [hL]; simp) hl (by omega) hcp.1 hcp.2 ?_
    have eR : (R.f0.toList != ([101, 110, 100] : List UInt8)) = true := by
      rw [(rep_of R).1 hR]
      decide
    refine Ev.step (fun k => impl_flat.l0.eq_2 _ _ _ k) ?_
    simp only [if_pos (show ((pre.length + 1 : Nat) : Int) < (L.length : Int) by omega), if_pos (show (0 : Int) ≤ ((pre.length + 1 : Nat) : Int) by omega), r2, eR]
    refine Ev.step (fun k => impl_flat.j1.eq_2 _ _ _ _ k) ?_
    have hol : (out ++ [c]).length = out.length + 1 := by simp
    have hw : wrap64 (((out.length + 1 : Nat) : Int) - 1) = (out.length : Int) := by rw [wrap_id (by omega) (by omega)]; omega
    have hrc : rd_T51 (out ++ [c]) (out.length : Int) = c := rd_mid out [] c
    simp only [if_true, if_pos (show ((pre.length + 1 : Nat) : Int) < (L.length : Int) by omega), if_pos (show (0 : Int) ≤ ((pre.length + 1 : Nat) : Int) by omega), r2, ← rep_of, hR, hol, hw, if_pos (show (0 : Int) ≤ (out.length : Int) by omega), if_pos (show (out.length : Int) < ((out.length + 1 : Nat) : Int) by omega), if_pos (show (out.length : Int) ≤ ((out.length + 1 : Nat) : Int) by omega), wrap_succ (pre.length + 1) (by omega), Int.toNat_natCast, List.take_left', hrc]
    refine Ev.bind inner ?_
    have htk : (out ++ [c]).take out.length = out := List.take_left
    simp only [htk]
    obtain ⟨n, hn⟩ := Int.eq_ofNat_of_zero_le h0
    have hnn : c.f1.toNat = n := by omega
    rw [hn]
    have p2 := P2.out
    have p3 := P3.out
    rw [hnn] at p2 p3 h
    have Q2 := Aside0.mk p2
    have Q3 := Aside0.mk p3
    clear p2 p3 P2 P3
    refine impl_reps L (pre.length + 2 + b.length) fb x hfb n out (by omega) Q3.out ?_
    rw [wrap_succ _ (by omega)]
    have := ih2 L (pre ++ c :: R :: (b ++ [E])) post (out ++ (List.replicate n fb).flatten) x hL5 hl Q2.out (by
      have e3 : (pre ++ c :: R :: (b ++ [E])).length = pre.length + 2 + b.length + 1 := by simp only [List.length_append, List.length_cons, List.length_nil]; omega
      rw [e3, List.append_assoc, show pre.length + 2 + b.length + 1 + r.length = pre.length + (b.length + (r.length + 1) + 1 + 1) by omega]
      exact h)
    have e3 : (pre ++ c :: R :: (b ++ [E])).length = pre.length + 2 + b.length + 1 := by simp only [List.length_append, List.length_cons, List.length_nil]; omega
    rw [e3] at this
    exact this
theorem impl_flat_ok (l f : List S51) (hl : l.length ≤ 60) (h : Sq 3 l f) : Ev (fun k => impl_flat.f k l 0) (f, (l.length : Int)) := by
  refine Ev.step (fun k => impl_flat.f.eq_2 _ _ k) ?_
  have h9 : (9 : Nat) ^ 3 = 729 := by decide
  have := impl_flat_at h l [] [] [] (f, (l.length : Int)) (by simp) (by omega) (by simp only [List.length_nil, h9]; omega) (by
    simp only [List.length_nil, List.nil_append, Nat.zero_add]
    exact impl_stop l f _ (Or.inl rfl))
  exact this
theorem e_nil : (⟨#[]⟩ : ByteArray).toList = ([] : List UInt8) := (Lib.toList_data _).trans rfl
theorem name_size (s : ByteArray) (h : nameB s = true) : 1 ≤ s.size ∧ s.size ≤ 8 := by
  unfold nameB at h
  rw [Bool.and_eq_true] at h
  exact of_decide_eq_true h.1
theorem vt_tok (x : S51) (h : VT x) : tokenB x.f0 x.f1 = true := by
  unfold tokenB
  rcases h with ⟨h1, h2⟩ | ⟨h1, h2⟩
  · rw [h1, if_pos e_nil]
    exact decide_eq_true h2
  · have := name_size _ h1
    rw [if_neg (fun hn => by
      rw [Lib.toList_data] at hn
      have := congrArg List.length hn
      have e : x.f0.data.toList.length = x.f0.size := by rw [Array.length_toList]; rfl
      rw [e, List.length_nil] at this
      omega), h1, h2]
    rfl
theorem vt_size (x : S51) (h : VT x) : x.f0.size ≤ 8 := by
  rcases h with ⟨h1, _⟩ | ⟨h1, _⟩
  · rw [h1]
    decide
  · exact (name_size _ h1).2
def tR : S51 := ⟨(⟨#[114, 101, 112, 101, 97, 116]⟩ : ByteArray), 0⟩
def tE : S51 := ⟨(⟨#[101, 110, 100]⟩ : ByteArray), 0⟩
theorem tR_rep : repB tR = true := (rep_of tR).2 ((Lib.toList_data _).trans rfl)
theorem tE_end : endB tE = true := (end_of tE).2 ((Lib.toList_data _).trans rfl)
theorem tR_vt : VT tR := Or.inr ⟨by decide +kernel, rfl⟩
theorem tE_vt : VT tE := Or.inr ⟨by decide +kernel, rfl⟩
theorem sq_head : ∀ {d : Nat} {s f : List S51}, Sq d s f → ∀ u v, s = u :: v → repB u = false := by
  intro d s f h u v e
  cases h with
  | nil => cases e
  | tok _ t r f h1 h2 h3 h4 =>
    rw [← (List.cons.inj e).1]
    exact h1
  | blk d c R E b r fb fr h0 h9 hc hR hE h1 h2 =>
    rw [← (List.cons.inj e).1]
    exact (num_plain c hc).1
theorem sq_append : ∀ {d : Nat} {s f : List S51}, Sq d s f → ∀ (s' f' : List S51), Sq d s' f' → Sq d (s ++ s') (f ++ f') := by
  intro d s f h
  induction h with
  | nil d => intro s' f' h'; exact h'
  | tok d t r f h1 h2 h3 h4 ih =>
    intro s' f' h'
    refine Sq.tok d t (r ++ s') (f ++ f') h1 h2 (fun u v e => ?_) (ih s' f' h')
    cases r with
    | nil => exact sq_head h' u v e
    | cons a r =>
      rw [← (List.cons.inj e).1]
      exact h3 a r rfl
  | blk d c R E b r fb fr h0 h9 hc hR hE h1 h2 ih1 ih2 =>
    intro s' f' h'
    have := Sq.blk d c R E b (r ++ s') fb (fr ++ f') h0 h9 hc hR hE h1 (ih2 s' f' h')
    simpa using this
theorem sq_mono : ∀ {d : Nat} {s f : List S51}, Sq d s f → Sq (d + 1) s f := by
  intro d s f h
  induction h with
  | nil d => exact Sq.nil _
  | tok d t r f h1 h2 h3 h4 ih => exact Sq.tok _ t r f h1 h2 h3 ih
  | blk d c R E b r fb fr h0 h9 hc hR hE h1 h2 ih1 ih2 => exact Sq.blk _ c R E b r fb fr h0 h9 hc hR hE ih1 ih2
theorem sq_plain : ∀ {d : Nat} {s f : List S51}, Sq d s f → ∀ x ∈ f, repB x = false ∧ endB x = false := by
  intro d s f h
  induction h with
  | nil d => intro x hx; cases hx
  | tok d t r f h1 h2 h3 h4 ih =>
    intro x hx
    rcases List.mem_cons.1 hx with rfl | hx
    · exact ⟨h1, h2⟩
    · exact ih x hx
  | blk d c R E b r fb fr h0 h9 hc hR hE h1 h2 ih1 ih2 =>
    intro x hx
    rcases List.mem_append.1 hx with hx | hx
    · obtain ⟨y, hy, hxy⟩ := List.mem_flatten.1 hx
      rw [(List.mem_replicate.1 hy).2] at hxy
      exact ih1 x hxy
    · exact ih2 x hx
theorem bo_prev (p q : Option S51) (l : List S51) (e : Int) (h : ∀ u v, l = u :: v → repB u = false) : boL p l e = boL q l e := by
  cases l with
  | nil => rfl
  | cons t r =>
    have := h t r rfl
    rw [boL, boL, this]
    simp only [Bool.false_eq_true, if_false]
theorem sq_bo : ∀ {d : Nat} {s f : List S51}, Sq d s f → ∀ (p q : Option S51) (e : Nat) (rest : List S51), d + e ≤ 3 → (∀ u v, rest = u :: v → repB u = false) → boL p (s ++ rest) (e : Int) = boL q rest (e : Int) := by
  intro d s f h
  induction h with
  | nil d => intro p q e rest _ hr; exact bo_prev p q rest e hr
  | tok d t r f h1 h2 h3 h4 ih =>
    intro p q e rest he hr
    rw [List.cons_append, boL, h1, h2]
    simp only [Bool.false_eq_true, if_false]
    exact ih (some t) q e rest he hr
  | blk d c R E b r fb fr h0 h9 hc hR hE h1 h2 ih1 ih2 =>
    intro p q e rest he hr
    have hcp := num_plain c hc
    have hcnt : cntL (some c) = true := by
      show (decide (c.f0.toList = ([] : List UInt8)) && decide (0 ≤ c.f1 ∧ c.f1 ≤ 9)) = true
      rw [decide_eq_true hc, decide_eq_true ⟨h0, h9⟩]
      rfl
    have e1 : c :: R :: (b ++ E :: r) ++ rest = c :: R :: (b ++ (E :: (r ++ rest))) := by simp
    rw [e1, boL, hcp.1, hcp.2]
    simp only [Bool.false_eq_true, if_false]
    rw [boL, hR, hcnt]
    simp only [if_true]
    rw [if_neg (show ¬ (e : Int) + 1 > 3 by omega)]
    have i1 := ih1 (some R) none (e + 1) (E :: (r ++ rest)) (by omega) (fun u v h => by
      rw [← (List.cons.inj h).1]
      exact end_not_rep E hE)
    rw [show ((e + 1 : Nat) : Int) = (e : Int) + 1 by omega] at i1
    rw [i1, boL, end_not_rep E hE, hE]
    simp only [Bool.false_eq_true, if_false, if_true]
    rw [if_neg (show ¬ (e : Int) + 1 - 1 < 0 by omega), show (e : Int) + 1 - 1 = (e : Int) by omega]
    exact ih2 (some E) q e rest he hr
theorem sq_ok (s f : List S51) (h : Sq 3 s f) (hl : s.length ≤ 60) (hv : ∀ x ∈ s, VT x) : okM s = true := by
  unfold okM
  rw [decide_eq_true hl, Bool.true_and, Bool.and_eq_true]
  refine ⟨(all_iff _ _ _).2 fun j _ hj => ?_, ?_⟩
  · unfold tokAt
    rw [rdiToken_lt s j hj]
    exact vt_tok _ (hv _ (List.getElem_mem _))
  · rw [bo_lists s s.length 0 0 (by omega)]
    simp only [if_true, List.drop_zero]
    have := sq_bo h none none 0 [] (by omega) (fun u v h => by cases h)
    rw [List.append_nil] at this
    exact this.trans rfl
theorem depth_pos (l : List S51) : ∀ (r i : Nat) (d m : Int), m ≤ bdM l r i d m := by
  intro r
  induction r with
  | zero => intro i d m; exact Int.le_refl _
  | succ r ih =>
    intro i d m
    rw [bdM]
    split
    · exact Int.le_trans (mx_ge m (d + 1)).1 (ih _ _ _)
    · split
      · exact ih _ _ _
      · exact ih _ _ _
def CB : Nat → Nat
  | 0 => 1
  | d + 1 => 3 + 4 * CB d
theorem CB_le (d : Nat) (h : d ≤ 2) : CB d ≤ 31 := by
  rcases d with _ | _ | _ | d
  · decide
  · decide
  · decide
  · omega
def Drawn (l : List Int) (d : Nat) (ix h : Int) : Prop := ∃ (s f : List S51) (i' h' : Int), Ev (fun k => spec_l06Blocks.f k l ix h (d : Int)) (s, i', h') ∧ Cur l i' ∧ Sq d s f ∧ (∀ x ∈ s, VT x) ∧ s.length ≤ 4 * CB d
theorem blocks_loop (l : List Int) (hl : l.length ≤ 1048576) (d : Nat) (hd : d ≤ 2) (sub : ∀ e, d = e + 1 → ∀ ix h, Cur l ix → Drawn l e ix h) (m : Nat) (hm : m ≤ 4) :
    ∀ (j i : Nat), i + j = m → ∀ (out fo : List S51) (ix h : Int), Cur l ix → Sq d out fo → (∀ x ∈ out, VT x) → out.length ≤ i * CB d →
    ∃ (s f : List S51) (i' h' : Int), Ev (fun k => spec_l06Blocks.l0 k (d : Int) out (m : Int) (i : Int) l ix h) (s, i', h') ∧ Cur l i' ∧ Sq d s f ∧ (∀ x ∈ s, VT x) ∧ s.length ≤ m * CB d := by
  have hcb := CB_le d hd
  have h1b : 1 ≤ CB d := by
    cases d with
    | zero => decide
    | succ d => rw [CB]; omega
  intro j
  induction j with
  | zero =>
    intro i hi out fo ix h hc hs hv hn
    obtain rfl : i = m := by omega
    refine ⟨out, fo, ix, h, Ev.step (fun k => spec_l06Blocks.l0.eq_2 _ _ _ _ _ _ _ k) ?_, hc, hs, hv, hn⟩
    simp only [if_neg (show ¬ (i : Int) < (i : Int) by omega)]
    exact Ev.now _
  | succ j ih =>
    intro i hi out fo ix h hc hs hv hn
    have hi4 : i * CB d ≤ 4 * 31 := Nat.mul_le_mul (by omega) hcb
    have hadd : (i + 1) * CB d = i * CB d + CB d := Nat.succ_mul _ _
    -- one token
    have one : ∀ (ix h : Int), Cur l ix → ∃ (s f : List S51) (i' h' : Int), Ev (fun k => spec_l06Blocks.j1 k (d : Int) out (m : Int) (i : Int) false l ix h) (s, i', h') ∧ Cur l i' ∧ Sq d s f ∧ (∀ x ∈ s, VT x) ∧ s.length ≤ m * CB d := by
      intro ix h hc
      obtain ⟨x, i2, h2, e2, c2, hx, hx1, hx2⟩ := draw_token2 l hl ix h hc
      obtain ⟨s, f, i', h', he, hr⟩ := ih (i + 1) (by omega) (out ++ [x]) (fo ++ [x]) i2 h2 c2 (sq_append hs [x] [x] (Sq.tok d x [] [] hx1 hx2 (fun u v e => by cases e) (Sq.nil d))) (fun y hy => by
        rcases List.mem_append.1 hy with hy | hy
        · exact hv y hy
        · rw [List.mem_singleton] at hy
          subst hy
          exact hx) (by rw [List.length_append, List.length_singleton, hadd]; omega)
      refine ⟨s, f, i', h', Ev.step (fun k => spec_l06Blocks.j1.eq_2 _ _ _ _ _ _ _ _ k) ?_, hr⟩
      simp only [Bool.false_eq_true, if_false, e2, Option.bind_some, if_pos (show out.length < 5864062014805 by omega), wrap_succ i (by omega)]
      exact he
    cases d with
    | zero =>
      obtain ⟨s, f, i', h', he, hr⟩ := one ix h hc
      refine ⟨s, f, i', h', Ev.step (fun k => spec_l06Blocks.l0.eq_2 _ _ _ _ _ _ _ k) ?_, hr⟩
      simp only [if_pos (show (i : Int) < (m : Int) by omega), if_neg (show ¬ ((0 : Nat) : Int) > 0 by omega)]
      exact he
    | succ d =>
      obtain ⟨b, i1, h1, e1, c1⟩ := draw_once l hl ix h 4 hc (by omega)
      cases b with
      | false =>
        obtain ⟨s, f, i', h', he, hr⟩ := one i1 h1 c1
        refine ⟨s, f, i', h', Ev.step (fun k => spec_l06Blocks.l0.eq_2 _ _ _ _ _ _ _ k) ?_, hr⟩
        simp only [if_pos (show (i : Int) < (m : Int) by omega), if_pos (show ((d + 1 : Nat) : Int) > 0 by omega), e1, Option.bind_some]
        exact he
      | true =>
        obtain ⟨c, i2, h2, e2, c2, n0, n4⟩ := draw_below l hl i1 h1 4 c1 (by omega)
        obtain ⟨s1, f1, i3, h3, e3, c3, hs1, hv1, hl1⟩ := sub d rfl i2 h2 c2
        have hcb1 : CB (d + 1) = 3 + 4 * CB d := rfl
        have hvc : VT (⟨⟨#[]⟩, c⟩ : S51) := Or.inl ⟨rfl, by show -999 ≤ c; omega, by show c ≤ 999; omega⟩
        have esh : out ++ [(⟨(⟨#[]⟩ : ByteArray), c⟩ : S51), tR] ++ s1 ++ [tE] = out ++ ((⟨(⟨#[]⟩ : ByteArray), c⟩ : S51) :: tR :: (s1 ++ tE :: [])) := by simp
        obtain ⟨s, f, i', h', he, hr⟩ := ih (i + 1) (by omega) (out ++ [(⟨(⟨#[]⟩ : ByteArray), c⟩ : S51), tR] ++ s1 ++ [tE]) (fo ++ ((List.replicate c.toNat f1).flatten ++ [])) i3 h3 c3 (by
          rw [esh]
          exact sq_append hs _ _ (Sq.blk d ⟨⟨#[]⟩, c⟩ tR tE s1 [] f1 [] n0 (by show c ≤ 9; omega) e_nil tR_rep tE_end hs1 (Sq.nil _))) (fun y hy => by
          rw [esh] at hy
          rcases List.mem_append.1 hy with hy | hy
          · exact hv y hy
          · rcases List.mem_cons.1 hy with rfl | hy
            · exact hvc
            · rcases List.mem_cons.1 hy with rfl | hy
              · exact tR_vt
              · rcases List.mem_append.1 hy with hy | hy
                · exact hv1 y hy
                · rw [List.mem_singleton] at hy
                  subst hy
                  exact tE_vt) (by
          simp only [List.length_append, List.length_cons, List.length_nil]
          omega)
        refine ⟨s, f, i', h', Ev.step (fun k => spec_l06Blocks.l0.eq_2 _ _ _ _ _ _ _ k) ?_, hr⟩
        simp only [if_pos (show (i : Int) < (m : Int) by omega), if_pos (show ((d + 1 : Nat) : Int) > 0 by omega), e1, Option.bind_some]
        refine Ev.step (fun k => spec_l06Blocks.j1.eq_2 _ _ _ _ _ _ _ _ k) ?_
        have g1 : out.length + [(⟨(⟨#[]⟩ : ByteArray), c⟩ : S51), (⟨(⟨#[114, 101, 112, 101, 97, 116]⟩ : ByteArray), 0⟩ : S51)].length < 5864062014805 := by
          simp only [List.length_cons, List.length_nil]
          omega
        have g2 : (out ++ [(⟨(⟨#[]⟩ : ByteArray), c⟩ : S51), (⟨(⟨#[114, 101, 112, 101, 97, 116]⟩ : ByteArray), 0⟩ : S51)]).length + s1.length < 5864062014805 := by
          simp only [List.length_append, List.length_cons, List.length_nil]
          omega
        have g3 : (out ++ [(⟨(⟨#[]⟩ : ByteArray), c⟩ : S51), (⟨(⟨#[114, 101, 112, 101, 97, 116]⟩ : ByteArray), 0⟩ : S51)] ++ s1).length < 5864062014805 := by
          simp only [List.length_append, List.length_cons, List.length_nil]
          omega
        have gw : wrap64 (((d + 1 : Nat) : Int) - 1) = (d : Int) := by rw [wrap_id (by omega) (by omega)]; omega
        simp only [if_true, e2, Option.bind_some, if_pos g1, gw]
        refine Ev.bind e3 ?_
        simp only [if_pos g2, if_pos g3, wrap_succ i (by omega)]
        exact he
theorem draw_blocks (l : List Int) (hl : l.length ≤ 1048576) : ∀ (d : Nat), d ≤ 2 → ∀ (ix h : Int), Cur l ix → Drawn l d ix h := by
  intro d
  induction d with
  | zero =>
    intro hd ix h hc
    obtain ⟨n, i1, h1, e1, c1, n0, n1⟩ := draw_below l hl ix h 5 hc (by omega)
    obtain ⟨m, rfl⟩ := Int.eq_ofNat_of_zero_le n0
    obtain ⟨s, f, i', h', he, c, hs, hv, hn⟩ := blocks_loop l hl 0 hd (fun e h => by omega) m (by omega) m 0 (by omega) [] [] i1 h1 c1 (Sq.nil _) (fun x hx => by cases hx) (by simp)
    refine ⟨s, f, i', h', Ev.step (fun k => spec_l06Blocks.f.eq_2 _ _ _ _ k) ?_, c, hs, hv, Nat.le_trans hn (Nat.mul_le_mul (by omega) (Nat.le_refl _))⟩
    simp only [e1, Option.bind_some]
    exact he
  | succ d ih =>
    intro hd ix h hc
    obtain ⟨n, i1, h1, e1, c1, n0, n1⟩ := draw_below l hl ix h 5 hc (by omega)
    obtain ⟨m, rfl⟩ := Int.eq_ofNat_of_zero_le n0
    obtain ⟨s, f, i', h', he, c, hs, hv, hn⟩ := blocks_loop l hl (d + 1) hd (fun e he ix h hc => by
      obtain rfl : d = e := by omega
      exact ih (by omega) ix h hc) m (by omega) m 0 (by omega) [] [] i1 h1 c1 (Sq.nil _) (fun x hx => by cases hx) (by simp)
    refine ⟨s, f, i', h', Ev.step (fun k => spec_l06Blocks.f.eq_2 _ _ _ _ k) ?_, c, hs, hv, Nat.le_trans hn (Nat.mul_le_mul (by omega) (Nat.le_refl _))⟩
    simp only [e1, Option.bind_some]
    exact he
theorem draw_all (l : List Int) (hl : l.length ≤ 1048576) : ∃ s f, Ev (fun k => spec_DrawBlocks.f k l) s ∧ Sq 2 s f ∧ (∀ x ∈ s, VT x) ∧ s.length ≤ 124 := by
  unfold spec_DrawBlocks.f
  obtain ⟨h0, e0⟩ := draw_new l hl
  obtain ⟨s, f, i', h', he, _, hs, hv, hn⟩ := draw_blocks l hl 2 (by omega) 0 h0 ⟨by omega, by omega⟩
  refine ⟨s, f, Ev.bind e0 ?_, hs, hv, hn⟩
  refine Ev.bind he ?_
  exact Ev.now _
theorem flatten_ok (s f : List S51) (h : Sq 3 s f) (hl : s.length ≤ 60) (hv : ∀ x ∈ s, VT x) : Ev (fun k => impl_FlattenBlocks.f k s) (if f.length ≤ 200 then (f, true) else ([], false)) := by
  unfold impl_FlattenBlocks.f
  refine Ev.bind (impl_blocks s (by omega) (fun x hx => Nat.le_trans (vt_size x (hv x hx)) (by decide))) ?_
  rw [sq_ok s f h hl hv]
  simp only [if_true]
  refine Ev.bind (impl_flat_ok s f hl h) ?_
  by_cases h2 : f.length ≤ 200
  · simp only [if_neg (show ¬ (f.length : Int) > 200 by omega), if_pos h2]
    exact Ev.now _
  · simp only [if_pos (show (f.length : Int) > 200 by omega), if_neg h2]
    exact Ev.now _
theorem flatten_long (s : List S51) (hl : 60 < s.length) (hl2 : s.length ≤ 1000) (hv : ∀ x ∈ s, VT x) : Ev (fun k => impl_FlattenBlocks.f k s) ([], false) := by
  unfold impl_FlattenBlocks.f
  refine Ev.bind (impl_blocks s (by omega) (fun x hx => Nat.le_trans (vt_size x (hv x hx)) (by decide))) ?_
  have e : okM s = false := by
    unfold okM
    rw [decide_eq_false (by omega)]
    rfl
  rw [e]
  simp only [Bool.false_eq_true, if_false]
  exact Ev.now _
theorem rep_end (s f : List S51) (h : Sq 2 s f) (hl : s.length ≤ 60) (hv : ∀ x ∈ s, VT x) (hf : f.length ≤ 1000000) : Ev (fun k => laws_FnRepeats.l0 k s (f.length : Int) f (f.length : Int)) true := by
  refine Ev.step (fun k => laws_FnRepeats.l0.eq_2 _ _ _ _ k) ?_
  have g1 : [(⟨(⟨#[]⟩ : ByteArray), 2⟩ : S51), (⟨(⟨#[114, 101, 112, 101, 97, 116]⟩ : ByteArray), 0⟩ : S51)].length + s.length < 5864062014805 := by
    simp only [List.length_cons, List.length_nil]
    omega
  have g2 : ([(⟨(⟨#[]⟩ : ByteArray), 2⟩ : S51), (⟨(⟨#[114, 101, 112, 101, 97, 116]⟩ : ByteArray), 0⟩ : S51)] ++ s).length < 5864062014805 := by
    simp only [List.length_append, List.length_cons, List.length_nil]
    omega
  simp only [if_neg (show ¬ (f.length : Int) < (f.length : Int) by omega), Option.bind_some, if_pos g1, if_pos g2]
  have hW : Sq 3 ([(⟨(⟨#[]⟩ : ByteArray), 2⟩ : S51), (⟨(⟨#[114, 101, 112, 101, 97, 116]⟩ : ByteArray), 0⟩ : S51)] ++ s ++ [(⟨(⟨#[101, 110, 100]⟩ : ByteArray), 0⟩ : S51)]) ((List.replicate 2 f).flatten ++ []) :=
    Sq.blk 2 ⟨⟨#[]⟩, 2⟩ tR tE s [] f [] (by decide) (by decide) e_nil tR_rep tE_end h (Sq.nil _)
  have hvW : ∀ x ∈ ([(⟨(⟨#[]⟩ : ByteArray), 2⟩ : S51), (⟨(⟨#[114, 101, 112, 101, 97, 116]⟩ : ByteArray), 0⟩ : S51)] ++ s ++ [(⟨(⟨#[101, 110, 100]⟩ : ByteArray), 0⟩ : S51)]), VT x := by
    intro y hy
    rcases List.mem_append.1 hy with hy | hy
    · rcases List.mem_append.1 hy with hy | hy
      · rcases List.mem_cons.1 hy with rfl | hy
        · exact Or.inl ⟨rfl, by decide, by decide⟩
        · rw [List.mem_singleton] at hy
          subst hy
          exact tR_vt
      · exact hv y hy
    · rw [List.mem_singleton] at hy
      subst hy
      exact tE_vt
  have hlW : ([(⟨(⟨#[]⟩ : ByteArray), 2⟩ : S51), (⟨(⟨#[114, 101, 112, 101, 97, 116]⟩ : ByteArray), 0⟩ : S51)] ++ s ++ [(⟨(⟨#[101, 110, 100]⟩ : ByteArray), 0⟩ : S51)]).length = s.length + 3 := by
    simp only [List.length_append, List.length_cons, List.length_nil]
    omega
  have hfl : ((List.replicate 2 f).flatten ++ []).length = 2 * f.length := by
    rw [List.append_nil, flat_rep]
  have w1 : wrap64 ((s.length : Int) + 3) = (s.length : Int) + 3 := wrap_id (by omega) (by omega)
  have w2 : wrap64 (2 * (f.length : Int)) = 2 * (f.length : Int) := wrap_id (by omega) (by omega)
  generalize ([(⟨(⟨#[]⟩ : ByteArray), 2⟩ : S51), (⟨(⟨#[114, 101, 112, 101, 97, 116]⟩ : ByteArray), 0⟩ : S51)] ++ s ++ [(⟨(⟨#[101, 110, 100]⟩ : ByteArray), 0⟩ : S51)]) = W at *
  generalize ((List.replicate 2 f).flatten ++ []) = F at *
  by_cases hb : s.length + 3 > 60
  · refine Ev.bind (flatten_long W (by omega) (by omega) hvW) ?_
    simp only [if_true, w1, if_pos (show (s.length : Int) + 3 > 60 by omega), Bool.false_eq_true, if_false]
    exact Ev.now _
  · refine Ev.bind (flatten_ok W F hW (by omega) hvW) ?_
    by_cases h2 : F.length ≤ 200
    · rw [if_pos h2]
      simp only [if_true, w1, w2, if_neg (show ¬ (s.length : Int) + 3 > 60 by omega), decide_eq_true (show 2 * (f.length : Int) ≤ 200 by omega), hfl]
      rw [show (((2 * f.length : Nat) : Int) == 2 * (f.length : Int)) = true from beq_iff_eq.2 (by omega)]
      exact Ev.now _
    · rw [if_neg h2]
      simp only [if_true, w1, w2, if_neg (show ¬ (s.length : Int) + 3 > 60 by omega), decide_eq_false (show ¬ 2 * (f.length : Int) ≤ 200 by omega), Bool.false_eq_true, if_false]
      exact Ev.now _
theorem rep_loop (s f : List S51) (h : Sq 2 s f) (hl : s.length ≤ 60) (hv : ∀ x ∈ s, VT x) (hf : f.length ≤ 1000000) : ∀ (d i : Nat), i + d = f.length → Ev (fun k => laws_FnRepeats.l0 k s (f.length : Int) f (i : Int)) true := by
  intro d
  induction d with
  | zero =>
    intro i hi
    obtain rfl : i = f.length := by omega
    exact rep_end s f h hl hv hf
  | succ d ih =>
    intro i hi
    have hp := sq_plain h (f[i]'(by omega)) (List.getElem_mem _)
    have n1 : ¬ (f[i]'(by omega)).f0.toList = ([114, 101, 112, 101, 97, 116] : List UInt8) := fun e => by
      have := (rep_of _).2 e
      rw [hp.1] at this
      cases this
    have n2 : ¬ (f[i]'(by omega)).f0.toList = ([101, 110, 100] : List UInt8) := fun e => by
      have := (end_of _).2 e
      rw [hp.2] at this
      cases this
    refine Ev.step (fun k => laws_FnRepeats.l0.eq_2 _ _ _ _ k) ?_
    simp only [if_pos (show (i : Int) < (f.length : Int) by omega), if_pos (show (0 : Int) ≤ (i : Int) by omega), rdiToken_lt f i (by omega), if_neg n1, if_neg n2, wrap_succ i (by omega)]
    exact ih (i + 1) (by omega)
theorem FnRepeats : laws_FnRepeats.Pure := by
  intro l hm hs hw
  refine Ev.rounds ?_
  simp only [laws_FnRepeats.f, laws_big.f, Option.bind_some, decide_eq_true_eq]
  by_cases hb : (l.length : Int) > 1048576
  · simp only [if_pos hb]
    exact Ev.now _
  simp only [if_neg hb]
  obtain ⟨s, f, e, hsq, hv, hl⟩ := draw_all l (by omega)
  refine Ev.bind e ?_
  by_cases h60 : (s.length : Int) > 60
  · simp only [if_pos h60]
    exact Ev.now _
  simp only [if_neg h60]
  have h6 : s.length ≤ 60 := by omega
  have h3 : Sq 3 s f := sq_mono hsq
  have hfl := sq_len h3
  rw [show (9 : Nat) ^ 3 = 729 by decide] at hfl
  have hok := sq_ok s f h3 h6 hv
  have hz : ∀ x ∈ s, x.f0.size ≤ 1048576 := fun x hx => Nat.le_trans (vt_size x (hv x hx)) (by decide)
  have eb := impl_blocks s (by omega) hz
  rw [hok] at eb
  have el : Ev (fun k => impl_FlatLength.f k s) (f.length : Int) := by
    unfold impl_FlatLength.f
    refine Ev.bind eb ?_
    simp only [if_true]
    refine Ev.bind (impl_flat_ok s f h6 h3) ?_
    exact Ev.now _
  have ed := impl_depth s (by omega) hz
  have hd : 0 ≤ depthM s := by
    unfold depthM
    rw [if_pos hok]
    exact depth_pos s _ _ _ _
  refine Ev.bind el ?_
  refine Ev.bind (flatten_ok s f h3 h6 hv) ?_
  refine Ev.bind eb ?_
  simp only [if_true, if_neg (show ¬ (f.length : Int) < 0 by omega)]
  by_cases h2 : f.length ≤ 200
  · rw [if_pos h2]
    simp only [decide_eq_true (show (f.length : Int) ≤ 200 by omega), bne_self_eq_false, Bool.false_eq_true, if_false]
    refine Ev.bind ed ?_
    rw [decide_eq_false (show ¬ depthM s < 0 by omega)]
    refine Ev.step (fun k => laws_FnRepeats.j0.eq_2 _ _ _ _ _ k) ?_
    simp only [Bool.false_eq_true, if_false, if_true]
    exact rep_loop s f hsq h6 hv (by omega) f.length 0 (by omega)
  · rw [if_neg h2]
    simp only [decide_eq_false (show ¬ (f.length : Int) ≤ 200 by omega), bne_self_eq_false, Bool.false_eq_true, if_false]
    refine Ev.bind ed ?_
    rw [decide_eq_false (show ¬ depthM s < 0 by omega)]
    refine Ev.step (fun k => laws_FnRepeats.j0.eq_2 _ _ _ _ _ k) ?_
    simp only [Bool.false_eq_true, if_false]
    exact Ev.now _

end Go.Proofs.Ytmhnnmjjebolpaa.Pure

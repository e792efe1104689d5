/- The program's FormatTokens returns what the reference's returns, for all arguments. This is its pure statement, over numbers and lists, as printed from the program; the row is built on it.
   Conditions: none. -/
import Derived.Test.YtbfeaekgbgfcjaaDoorGFnExactFormatTokensx4
namespace Go.Proofs.YtbfeaekgbgfcjaaDoor.Pure
set_option linter.unusedSimpArgs false
set_option linter.unusedVariables false
open Go.RowKit Go.Proofs.YtbfeaekgbgfcjaaDoor.GFnExactFormatTokens Go.Proofs.YtbfeaekgbgfcjaaDoorW.PrintWords Go.Proofs.YtbfeaekgbgfcjaaDoorW.PrintLast

theorem wrap_id {x : Int} (h0 : -9223372036854775808 ≤ x) (h1 : x ≤ 9223372036854775807) : wrap64 x = x := by
  unfold wrap64
  omega
theorem wrap_succ (i : Nat) (h : i < 4611686018427387904) : wrap64 ((i : Int) + 1) = ((i + 1 : Nat) : Int) := by
  rw [wrap_id (by omega) (by omega)]
  omega
theorem rd_lt (l : List Int) (i : Nat) (h : i < l.length) : rd l (i : Int) = l[i] := by
  unfold rd
  rw [Int.toNat_natCast, List.getD_eq_getElem?_getD, List.getElem?_eq_getElem h]
  rfl
theorem set_take {α : Type} (l x : List α) (i : Nat) (hi : i < l.length) (hx : x.length = l.length) (h : x.take i = l.take i) :
    (x.set i l[i]).take (i + 1) = l.take (i + 1) := by
  rw [List.take_succ_eq_append_getElem (by simp; omega), List.take_succ_eq_append_getElem hi, List.getElem_set_self, List.take_set_of_le (Nat.le_refl i), h]
def allFrom (p : Nat → Bool) (n i : Nat) : Bool := (List.range' i (n - i)).all p
theorem all_end (p : Nat → Bool) (n : Nat) : allFrom p n n = true := by simp [allFrom]
theorem all_step (p : Nat → Bool) (n i : Nat) (h : i < n) : allFrom p n i = (p i && allFrom p n (i + 1)) := by
  unfold allFrom
  rw [show n - i = (n - (i + 1)) + 1 by omega, List.range'_succ, List.all_cons]
theorem all_iff (p : Nat → Bool) (n i : Nat) : allFrom p n i = true ↔ ∀ j, i ≤ j → j < n → p j = true := by
  unfold allFrom
  rw [List.all_eq_true]
  constructor
  · intro h j h1 h2
    exact h j (List.mem_range'_1.2 ⟨h1, by omega⟩)
  · intro h j hj
    have := List.mem_range'_1.1 hj
    exact h j this.1 (by omega)
theorem spec_in (a b c : Int) : spec_l01In.f a b c = some (decide (b ≤ a ∧ a ≤ c)) := by
  unfold spec_l01In.f
  by_cases h : b ≤ a <;> simp [h]
theorem impl_in (a b c : Int) : impl_within.f a b c = some (decide (b ≤ a ∧ a ≤ c)) := by
  unfold impl_within.f
  by_cases h : b ≤ a <;> simp [h]
def letterB (s : ByteArray) (i : Nat) : Bool := decide (97 ≤ bt s (i : Int) ∧ bt s (i : Int) ≤ 122)
def lettersB (s : ByteArray) (i : Nat) : Bool := (List.range' i (s.size - i)).all (letterB s)
def nameB (s : ByteArray) : Bool := decide (1 ≤ s.size ∧ s.size ≤ 8) && lettersB s 0
theorem letters_end (s : ByteArray) : lettersB s s.size = true := by simp [lettersB]
theorem letters_step (s : ByteArray) (i : Nat) (h : i < s.size) : lettersB s i = (letterB s i && lettersB s (i + 1)) := by
  unfold lettersB
  rw [show s.size - i = (s.size - (i + 1)) + 1 by omega, List.range'_succ, List.all_cons]
theorem spec_letters (s : ByteArray) (hs : s.size ≤ 1048577) : ∀ (d i : Nat), i + d = s.size →
    Ev (fun k => spec_IsName.l0 k s (i : Int)) (lettersB s i && decide (1 ≤ s.size ∧ s.size ≤ 8)) := by
  intro d
  induction d with
  | zero =>
    intro i hi
    refine Ev.step (fun k => spec_IsName.l0.eq_2 _ _ k) ?_
    simp only [if_neg (show ¬ (i : Int) < (s.size : Int) by omega), spec_in, Option.bind_some]
    rw [show i = s.size by omega, letters_end]
    have e : decide ((1 : Int) ≤ (s.size : Int) ∧ (s.size : Int) ≤ 8) = (true && decide (1 ≤ s.size ∧ s.size ≤ 8)) := by
      rw [Bool.true_and]
      exact decide_eq_decide.2 ⟨fun h => by omega, fun h => by omega⟩
    rw [e]
    exact Ev.now _
  | succ d ih =>
    intro i hi
    refine Ev.step (fun k => spec_IsName.l0.eq_2 _ _ k) ?_
    simp only [if_pos (show (i : Int) < (s.size : Int) by omega), if_pos (show (0 : Int) ≤ (i : Int) by omega)]
    rw [wrap_succ i (by omega), letters_step s i (by omega)]
    by_cases h1 : bt s (i : Int) < 97
    · simp only [if_pos h1]
      rw [show letterB s i = false from decide_eq_false (by omega)]
      exact Ev.now _
    · simp only [if_neg h1]
      by_cases h2 : bt s (i : Int) > 122
      · simp only [if_pos h2]
        rw [show letterB s i = false from decide_eq_false (by omega)]
        exact Ev.now _
      · simp only [if_neg h2]
        rw [show letterB s i = true from decide_eq_true (by omega), Bool.true_and]
        exact ih (i + 1) (by omega)
theorem spec_name (s : ByteArray) (hs : s.size ≤ 1048577) : Ev (fun k => spec_IsName.f k s) (nameB s) := by
  unfold spec_IsName.f nameB
  rw [Bool.and_comm]
  exact spec_letters s hs s.size 0 (by omega)
theorem impl_letters (s : ByteArray) (hs : s.size ≤ 1048577) : ∀ (d i : Nat), i + d = s.size →
    Ev (fun k => impl_IsName.l0 k s (i : Int)) (lettersB s i) := by
  intro d
  induction d with
  | zero =>
    intro i hi
    refine Ev.step (fun k => impl_IsName.l0.eq_2 _ _ k) ?_
    simp only [if_neg (show ¬ (i : Int) < (s.size : Int) by omega)]
    rw [show i = s.size by omega, letters_end]
    exact Ev.now _
  | succ d ih =>
    intro i hi
    refine Ev.step (fun k => impl_IsName.l0.eq_2 _ _ k) ?_
    simp only [if_pos (show (i : Int) < (s.size : Int) by omega), if_pos (show (0 : Int) ≤ (i : Int) by omega)]
    rw [wrap_succ i (by omega), letters_step s i (by omega)]
    by_cases h1 : bt s (i : Int) < 97
    · simp only [if_pos h1]
      rw [show letterB s i = false from decide_eq_false (by omega)]
      exact Ev.now _
    · simp only [if_neg h1]
      by_cases h2 : bt s (i : Int) > 122
      · simp only [if_pos h2]
        rw [show letterB s i = false from decide_eq_false (by omega)]
        exact Ev.now _
      · simp only [if_neg h2]
        rw [show letterB s i = true from decide_eq_true (by omega), Bool.true_and]
        exact ih (i + 1) (by omega)
theorem impl_name (s : ByteArray) (hs : s.size ≤ 1048577) : Ev (fun k => impl_IsName.f k s) (nameB s) := by
  unfold impl_IsName.f nameB
  have j (t : Bool) : Ev (fun k => impl_IsName.j0 k s t) (!t && lettersB s 0) := by
    refine Ev.step (fun k => impl_IsName.j0.eq_2 _ _ k) ?_
    cases t
    · simp only [Bool.false_eq_true, if_false, Bool.not_false, Bool.true_and]
      exact impl_letters s hs s.size 0 (by omega)
    · simp only [if_true]
      exact Ev.now _
  by_cases h : (s.size : Int) < 1
  · simp only [if_pos h]
    rw [decide_eq_false (by omega)]
    exact j true
  · simp only [if_neg h]
    have e : decide (1 ≤ s.size ∧ s.size ≤ 8) = !decide ((s.size : Int) > 8) := by
      by_cases h8 : s.size ≤ 8
      · rw [decide_eq_true (by omega), decide_eq_false (by omega)]
        rfl
      · rw [decide_eq_false (by omega), decide_eq_true (by omega)]
        rfl
    rw [e]
    exact j _
def tokenB (s : ByteArray) (n : Int) : Bool := if s.toList = ([] : List UInt8) then decide (-999 ≤ n ∧ n ≤ 999) else nameB s && (n == 0)
theorem spec_token (s : ByteArray) (n : Int) (hs : s.size ≤ 1048577) : Ev (fun k => spec_TokenOk.f k s n) (tokenB s n) := by
  unfold spec_TokenOk.f tokenB
  by_cases h : s.toList = ([] : List UInt8)
  · simp only [if_pos h, spec_in, Option.bind_some]
    exact Ev.now _
  · simp only [if_neg h]
    refine Ev.bind (spec_name s hs) ?_
    cases nameB s <;> simp <;> exact Ev.now _
theorem impl_token (s : ByteArray) (n : Int) (hs : s.size ≤ 1048577) : Ev (fun k => impl_TokenOk.f k s n) (tokenB s n) := by
  unfold impl_TokenOk.f tokenB
  by_cases h : s.toList = ([] : List UInt8)
  · simp only [if_pos h, impl_in, Option.bind_some]
    exact Ev.now _
  · simp only [if_neg h]
    refine Ev.bind (impl_name s hs) ?_
    cases nameB s <;> simp <;> exact Ev.now _
theorem sz_token (s : ByteArray) (n m : Int) (hs : s.size ≤ maxLen) (h0 : 0 ≤ m) (hm : m ≤ 1048576) :
    laws_szToken.f s n m = some (if m - s.size < 0 then -1 else m - s.size) := by
  have hs' : s.size ≤ 9223372036854775807 := hs
  unfold laws_szToken.f
  rw [wrap_id (by omega) (by omega)]
  split <;> rfl
def cvToken (x : S63) : S43 := ⟨x.f0, x.f1⟩
theorem rdlToken_lt (l : List S63) (i : Nat) (h : i < l.length) : rd_T63 l (i : Int) = l[i] := by
  unfold rd_T63
  rw [Int.toNat_natCast, List.getD_eq_getElem?_getD, List.getElem?_eq_getElem h]
  rfl
theorem rdiToken_lt (l : List S43) (i : Nat) (h : i < l.length) : rd_T43 l (i : Int) = l[i] := by
  unfold rd_T43
  rw [Int.toNat_natCast, List.getD_eq_getElem?_getD, List.getElem?_eq_getElem h]
  rfl
theorem toToken_loop (l : List S63) (hl : l.length ≤ 1048576) : ∀ (d i : Nat) (x : List S43), i + d = l.length → x.length = l.length → x.take i = (l.map cvToken).take i →
    Ev (fun k => laws_toTokenS.l0 k l x (i : Int)) (l.map cvToken) := by
  intro d
  induction d with
  | zero =>
    intro i x hi hx ht
    refine Ev.step (fun k => laws_toTokenS.l0.eq_2 _ _ _ k) ?_
    simp only [if_neg (show ¬ (i : Int) < (l.length : Int) by omega)]
    rw [List.take_of_length_le (by omega), List.take_of_length_le (by simp; omega)] at ht
    subst ht
    exact Ev.now _
  | succ d ih =>
    intro i x hi hx ht
    refine Ev.step (fun k => laws_toTokenS.l0.eq_2 _ _ _ k) ?_
    simp only [if_pos (show (i : Int) < (l.length : Int) by omega), if_pos (show (0 : Int) ≤ (i : Int) by omega), if_pos (show (i : Int) < (x.length : Int) by omega), laws_toToken.f, Option.bind_some]
    rw [wrap_succ i (by omega), rdlToken_lt l i (by omega), Int.toNat_natCast]
    refine ih (i + 1) _ (by omega) (by simp; omega) ?_
    have := set_take (l.map cvToken) x i (by simp; omega) (by simp; omega) ht
    rw [List.getElem_map] at this
    exact this
theorem toTokens (l : List S63) (hl : l.length ≤ 1048576) : Ev (fun k => laws_toTokenS.f k l) (l.map cvToken) := by
  unfold laws_toTokenS.f
  simp only [if_pos (show (0 : Int) ≤ (l.length : Int) by omega), Int.toNat_natCast, if_pos (show l.length ≤ 11728124029610 by omega)]
  exact toToken_loop l hl l.length 0 _ (by omega) (by simp) (by simp)
theorem eqToken_loop (l : List S43) (hl : l.length ≤ 1048577) : ∀ (d i : Nat), i + d = l.length →
    Ev (fun k => laws_eqTokenS.l0 k l l (i : Int)) true := by
  intro d
  induction d with
  | zero =>
    intro i hi
    refine Ev.step (fun k => laws_eqTokenS.l0.eq_2 _ _ _ k) ?_
    simp only [if_neg (show ¬ (i : Int) < (l.length : Int) by omega)]
    exact Ev.now _
  | succ d ih =>
    intro i hi
    refine Ev.step (fun k => laws_eqTokenS.l0.eq_2 _ _ _ k) ?_
    simp only [if_pos (show (i : Int) < (l.length : Int) by omega), if_pos (show (0 : Int) ≤ (i : Int) by omega), laws_eqToken.f, if_true, Option.bind_some]
    rw [wrap_succ i (by omega)]
    exact ih (i + 1) (by omega)
theorem eqTokens (l : List S43) (hl : l.length ≤ 1048577) : Ev (fun k => laws_eqTokenS.f k l l) true := by
  unfold laws_eqTokenS.f
  simp only [if_true]
  exact eqToken_loop l hl l.length 0 (by omega)
theorem sz_tokens_loop (l : List S63) (hl : l.length ≤ 1048576) (hs : ∀ x ∈ l, x.f0.size ≤ maxLen) : ∀ (d i : Nat) (m : Int), i + d = l.length → 0 ≤ m → m ≤ 1048576 →
    ∃ v, Ev (fun k => laws_szTokenS.l0 k l m (i : Int)) v ∧ (0 ≤ v → ∀ j : Nat, i ≤ j → ∀ h : j < l.length, l[j].f0.size ≤ 1048576) := by
  intro d
  induction d with
  | zero =>
    intro i m hi h0 h1
    refine ⟨m, Ev.step (fun k => laws_szTokenS.l0.eq_2 _ _ _ k) ?_, fun _ j h1 h2 => by omega⟩
    simp only [if_neg (show ¬ (i : Int) < (l.length : Int) by omega)]
    exact Ev.now _
  | succ d ih =>
    intro i m hi h0 h1
    have hb := hs l[i] (List.getElem_mem _)
    by_cases hc : m - (l[i].f0.size : Int) < 0
    · refine ⟨-1, Ev.step (fun k => laws_szTokenS.l0.eq_2 _ _ _ k) ?_, fun h => by omega⟩
      simp only [if_pos (show (i : Int) < (l.length : Int) by omega), if_pos (show (0 : Int) ≤ (i : Int) by omega)]
      rw [rdlToken_lt l i (by omega), sz_token _ _ m hb h0 h1, if_pos hc]
      simp only [Option.bind_some, if_pos (show (-1 : Int) < 0 by omega)]
      exact Ev.now _
    · obtain ⟨v, e, hv⟩ := ih (i + 1) (m - (l[i].f0.size : Int)) (by omega) (by omega) (by omega)
      refine ⟨v, Ev.step (fun k => laws_szTokenS.l0.eq_2 _ _ _ k) ?_, fun h j h2 h3 => ?_⟩
      · simp only [if_pos (show (i : Int) < (l.length : Int) by omega), if_pos (show (0 : Int) ≤ (i : Int) by omega)]
        rw [rdlToken_lt l i (by omega), sz_token _ _ m hb h0 h1, if_neg hc, wrap_succ i (by omega)]
        simp only [Option.bind_some, if_neg hc]
        exact e
      · by_cases hj : j = i
        · subst hj
          omega
        · exact hv h j (by omega) h3
theorem sz_tokens (l : List S63) (hm : l.length ≤ 9223372036854775807) (hs : ∀ x ∈ l, x.f0.size ≤ maxLen) :
    ∃ v, Ev (fun k => laws_szTokenS.f k l 1048576) v ∧ (0 ≤ v → l.length ≤ 1048576 ∧ ∀ x ∈ l, x.f0.size ≤ 1048576) := by
  unfold laws_szTokenS.f
  rw [wrap_id (x := 1048576 - (l.length : Int)) (by omega) (by omega)]
  by_cases hc : (1048576 : Int) - (l.length : Int) < 0
  · simp only [if_pos hc]
    exact ⟨-1, Ev.now _, fun h => by omega⟩
  · simp only [if_neg hc]
    obtain ⟨v, e, hv⟩ := sz_tokens_loop l (by omega) hs l.length 0 (1048576 - (l.length : Int)) (by omega) (by omega) (by omega)
    refine ⟨v, e, fun h => ⟨by omega, fun x hx => ?_⟩⟩
    obtain ⟨j, hj, rfl⟩ := List.getElem_of_mem hx
    exact hv h j (by omega) hj
theorem cv_sizes (l : List S63) (h : ∀ x ∈ l, x.f0.size ≤ 1048576) : ∀ x ∈ l.map cvToken, x.f0.size ≤ 1048576 := by
  intro x hx
  rw [List.mem_map] at hx
  obtain ⟨u, hu, rfl⟩ := hx
  exact h u hu
def tokAt (l : List S43) (i : Nat) : Bool := tokenB (rd_T43 l (i : Int)).f0 (rd_T43 l (i : Int)).f1
theorem rd_size (l : List S43) (hs : ∀ x ∈ l, x.f0.size ≤ 1048576) (i : Nat) (hi : i < l.length) : (rd_T43 l (i : Int)).f0.size ≤ 1048577 := by
  rw [rdiToken_lt l i hi]
  have := hs l[i] (List.getElem_mem _)
  omega
theorem impl_tokens_loop (l : List S43) (hl : l.length ≤ 1048576) (hs : ∀ x ∈ l, x.f0.size ≤ 1048576) : ∀ (d i : Nat), i + d = l.length →
    Ev (fun k => impl_tokensOk.l0 k l (l.length : Int) (i : Int)) (allFrom (tokAt l) l.length i) := by
  intro d
  induction d with
  | zero =>
    intro i hi
    refine Ev.step (fun k => impl_tokensOk.l0.eq_2 _ _ _ k) ?_
    simp only [if_neg (show ¬ (i : Int) < (l.length : Int) by omega)]
    rw [show i = l.length by omega, all_end]
    exact Ev.now _
  | succ d ih =>
    intro i hi
    refine Ev.step (fun k => impl_tokensOk.l0.eq_2 _ _ _ k) ?_
    simp only [if_pos (show (i : Int) < (l.length : Int) by omega), if_pos (show (0 : Int) ≤ (i : Int) by omega)]
    rw [wrap_succ i (by omega), all_step _ _ _ (show i < l.length by omega)]
    refine Ev.bind (impl_token _ _ (rd_size l hs i (by omega))) ?_
    change Ev (fun k => if tokAt l i = true then _ else _) _
    cases tokAt l i with
    | false =>
      simp only [Bool.false_eq_true, if_false, Bool.false_and]
      exact Ev.now _
    | true =>
      simp only [if_true, Bool.true_and]
      exact ih (i + 1) (by omega)
theorem impl_tokens (l : List S43) (hl : l.length ≤ 1048576) (hs : ∀ x ∈ l, x.f0.size ≤ 1048576) : Ev (fun k => impl_tokensOk.f k l) (allFrom (tokAt l) l.length 0) := by
  unfold impl_tokensOk.f
  exact impl_tokens_loop l hl hs l.length 0 (by omega)
theorem str_app (a b : List UInt8) : (⟨a.toArray⟩ : ByteArray) ++ ⟨b.toArray⟩ = ⟨(a ++ b).toArray⟩ := by
  apply ByteArray.ext
  rw [ByteArray.data_append]
  simp
theorem nDigits_le : ∀ (k m : Nat), m < 10 ^ (k + 1) → Lib.nDigits m ≤ k + 1
  | 0, m, h => by rw [Lib.nDigits, dif_pos (by omega)]; omega
  | k + 1, m, h => by
    by_cases h10 : m < 10
    · rw [Lib.nDigits, dif_pos h10]; omega
    · rw [Lib.nDigits, dif_neg h10]
      have := nDigits_le k (m / 10) (by rw [Nat.pow_succ] at h; omega)
      omega
theorem fig_digit : ∀ n : Nat, n < 10 → spec_l01Figure.f (n : Int) = some ((48 + n : Nat) : Int) := by decide +kernel
theorem str_digit : ∀ n : Nat, n < 10 → strOfNums [((48 + n : Nat) : Int)] = ⟨[UInt8.ofNat (48 + n)].toArray⟩ := by
  intro n hn
  show (⟨#[UInt8.ofNat ((48 + n : Nat) : Int).toNat]⟩ : ByteArray) = _
  rw [Int.toNat_natCast]
def signed (b : Bool) (l : List UInt8) : List UInt8 := if b = true then 45 :: l else l
theorem spec_fmt_loop (b : Bool) : ∀ (d m : Nat) (x : Int) (l : List UInt8), m ≤ d → m ≠ 0 → m ≤ 9223372036854775808 → (x = (m : Int) ∨ x = -(m : Int)) → -9223372036854775808 ≤ x → x ≤ 9223372036854775807 → l.length + Lib.nDigits m ≤ 100 →
    Ev (fun k => spec_FormatInt.l0 k x b ⟨l.toArray⟩) ⟨(signed b (Lib.decDigits m ++ l)).toArray⟩ := by
  intro d
  induction d with
  | zero => intro m x l h1 h2; omega
  | succ d ih =>
    intro m x l hmd hm0 hm hx hx0 hx1 hl
    have hm10 : m % 10 < 10 := Nat.mod_lt _ (by omega)
    have hnx : ¬ x = 0 := by rcases hx with rfl | rfl <;> omega
    have t1 : x.tmod 10 = if x < 0 then -((m % 10 : Nat) : Int) else ((m % 10 : Nat) : Int) := by
      rcases hx with rfl | rfl
      · rw [if_neg (by omega)]; rfl
      · rw [if_pos (by omega), Int.neg_tmod]; rfl
    have t2 : x.tdiv 10 = (if x < 0 then -((m / 10 : Nat) : Int) else ((m / 10 : Nat) : Int)) := by
      rcases hx with rfl | rfl
      · rw [if_neg (by omega)]; rfl
      · rw [if_pos (by omega), Int.neg_tdiv]; rfl
    have w2 : wrap64 (x.tdiv 10) = x.tdiv 10 := wrap_id (by rw [t2]; split <;> omega) (by rw [t2]; split <;> omega)
    have hsz : (⟨l.toArray⟩ : ByteArray).size = l.length := by simp [ByteArray.size]
    have hsz1 : (⟨[UInt8.ofNat (48 + m % 10)].toArray⟩ : ByteArray).size = 1 := rfl
    -- the next round, whichever sign
    have next : Ev (fun k => spec_FormatInt.l0 k (x.tdiv 10) b ((⟨[UInt8.ofNat (48 + m % 10)].toArray⟩ : ByteArray) ++ ⟨l.toArray⟩)) ⟨(signed b (Lib.decDigits m ++ l)).toArray⟩ := by
      rw [str_app]
      by_cases h10 : m < 10
      · have e0 : x.tdiv 10 = 0 := by rw [t2]; split <;> omega
        rw [e0]
        refine Ev.step (fun k => spec_FormatInt.l0.eq_2 _ _ _ k) ?_
        simp only [if_true]
        have ed : Lib.decDigits m = [UInt8.ofNat (48 + m % 10)] := by rw [Lib.decDigits, dif_pos h10, Nat.mod_eq_of_lt h10]
        rw [ed]
        unfold signed
        cases b
        · simp only [Bool.false_eq_true, if_false]
          exact Ev.now _
        · simp only [if_true]
          rw [if_pos (by
            have : (⟨([UInt8.ofNat (48 + m % 10)] ++ l).toArray⟩ : ByteArray).size = l.length + 1 := by simp [ByteArray.size]
            rw [this]
            omega)]
          rw [show (⟨#[45]⟩ : ByteArray) = ⟨[(45 : UInt8)].toArray⟩ from rfl, str_app]
          exact Ev.now _
      · have ed : Lib.decDigits m = Lib.decDigits (m / 10) ++ [UInt8.ofNat (48 + m % 10)] := by rw [Lib.decDigits, dif_neg h10]
        have en : Lib.nDigits m = Lib.nDigits (m / 10) + 1 := by rw [Lib.nDigits, dif_neg h10]
        rw [ed, List.append_assoc]
        refine ih (m / 10) _ _ (by omega) (by omega) (by omega) ?_ ?_ ?_ ?_
        · rw [t2]; split
          · exact Or.inr rfl
          · exact Or.inl rfl
        · rw [t2]; split <;> omega
        · rw [t2]; split <;> omega
        · simp only [List.length_append, List.length_cons, List.length_nil]; omega
    refine Ev.step (fun k => spec_FormatInt.l0.eq_2 _ _ _ k) ?_
    simp only [if_neg hnx]
    by_cases hneg : (x.tmod 10) < 0
    · have e1 : wrap64 (-(x.tmod 10)) = ((m % 10 : Nat) : Int) := by
        rw [t1] at hneg ⊢
        split at hneg
        · rename_i h; rw [if_pos h, wrap_id (by omega) (by omega)]; omega
        · omega
      simp only [if_pos hneg, e1, fig_digit _ hm10, Option.bind_some, str_digit _ hm10, hsz, hsz1, if_pos (show 1 + l.length ≤ 9223372036854775807 by omega), w2]
      exact next
    · have e1 : x.tmod 10 = ((m % 10 : Nat) : Int) := by
        rw [t1] at hneg ⊢
        split at hneg
        · rename_i h; rw [if_pos h]; omega
        · rename_i h; rw [if_neg h]
      simp only [if_neg hneg]
      simp only [e1, fig_digit _ hm10, Option.bind_some, str_digit _ hm10, hsz, hsz1, if_pos (show 1 + l.length ≤ 9223372036854775807 by omega), w2]
      exact next
theorem spec_fmt (a : Int) (h0 : -9223372036854775808 ≤ a) (h1 : a ≤ 9223372036854775807) : Ev (fun k => spec_FormatInt.f k a) ⟨(Lib.itoa a).toArray⟩ := by
  unfold spec_FormatInt.f
  by_cases hz : a = 0
  · subst hz
    simp only [if_true]
    have e : Lib.itoa 0 = [48] := by
      unfold Lib.itoa
      rw [if_neg (by omega)]
      exact Lib.decDigits_one (i := 0) (by omega)
    rw [e]
    exact Ev.now _
  · simp only [if_neg hz]
    have hb := spec_fmt_loop (decide (a < 0)) a.natAbs a.natAbs a [] (Nat.le_refl _) (by omega) (by omega) (by omega) h0 h1 (by
      have := nDigits_le 19 a.natAbs (by have : (10 : Nat) ^ (19 + 1) = 100000000000000000000 := by decide
                                         omega)
      simp only [List.length_nil]; omega)
    have e : signed (decide (a < 0)) (Lib.decDigits a.natAbs ++ []) = Lib.itoa a := by
      unfold signed Lib.itoa
      rw [List.append_nil]
      by_cases hn : a < 0
      · rw [if_pos (decide_eq_true hn), if_pos hn]
      · rw [if_neg (by simpa using hn), if_neg hn]
        rw [show a.natAbs = a.toNat by omega]
    rw [e] at hb
    exact hb
theorem bt_get (a : ByteArray) (i : Nat) (h : i < a.size) : bt a (i : Int) = ((a.data.getD i 0).toNat : Int) := by
  have e : a.data.getD i 0 = a[i] := by
    rw [Array.getD_eq_getD_getElem?, Array.getElem?_eq_getElem (show i < a.data.size from h)]
    rfl
  rw [e]
  unfold bt
  rw [dif_pos (show (i : Int).toNat < a.size by omega)]
  rfl
theorem drop_bytes (a : ByteArray) (i : Nat) (h : i < a.size) : a.data.toList.drop i = a.data.getD i 0 :: a.data.toList.drop (i + 1) := by
  have hl : i < a.data.toList.length := by rw [Array.length_toList]; exact h
  rw [List.drop_eq_getElem_cons hl]
  congr 1
  rw [Array.getD_eq_getD_getElem?, Array.getElem?_eq_getElem (show i < a.data.size from h), Array.getElem_toList]
  rfl
theorem size_toList (a : ByteArray) : a.data.toList.length = a.size := by rw [Array.length_toList]; rfl
theorem size_mk (l : List UInt8) : (⟨l.toArray⟩ : ByteArray).size = l.length := by simp [ByteArray.size]
theorem toList_mk (l : List UInt8) : (⟨l.toArray⟩ : ByteArray).toList = l := by rw [Lib.toList_data]
/-- A token's text. -/
def txt (x : S43) : List UInt8 := if x.f0.toList = ([] : List UInt8) then Lib.itoa x.f1 else x.f0.data.toList
theorem itoa_len (n : Int) (h0 : -9223372036854775808 ≤ n) (h1 : n ≤ 9223372036854775807) : (Lib.itoa n).length ≤ 21 := by
  have h20 : (10 : Nat) ^ (19 + 1) = 100000000000000000000 := by decide
  unfold Lib.itoa
  split
  · have := nDigits_le 19 n.natAbs (by omega)
    simp only [List.length_cons, Lib.decDigits_length]
    omega
  · have := nDigits_le 19 n.toNat (by omega)
    rw [Lib.decDigits_length]
    omega
theorem tok_num (x : S43) (h : tokenB x.f0 x.f1 = true) (he : x.f0.toList = ([] : List UInt8)) : -999 ≤ x.f1 ∧ x.f1 ≤ 999 := by
  unfold tokenB at h
  rw [if_pos he] at h
  exact of_decide_eq_true h
theorem tok_name (x : S43) (h : tokenB x.f0 x.f1 = true) (he : ¬ x.f0.toList = ([] : List UInt8)) : nameB x.f0 = true ∧ x.f1 = 0 := by
  unfold tokenB at h
  rw [if_neg he, Bool.and_eq_true] at h
  exact ⟨h.1, by simpa using h.2⟩
theorem name_size (s : ByteArray) (h : nameB s = true) : 1 ≤ s.size ∧ s.size ≤ 8 := by
  unfold nameB at h
  rw [Bool.and_eq_true] at h
  exact of_decide_eq_true h.1
theorem txt_len (x : S43) (h : tokenB x.f0 x.f1 = true) : (txt x).length ≤ 21 := by
  unfold txt
  split
  · rename_i he
    have := tok_num x h he
    exact itoa_len _ (by omega) (by omega)
  · rename_i he
    have := name_size _ (tok_name x h he).1
    rw [size_toList]
    omega
theorem join_len : ∀ (xs : List (List UInt8)), (∀ x ∈ xs, x.length ≤ 21) → (Lib.join xs [32]).length ≤ 22 * xs.length
  | [], _ => by simp [Lib.join_nil]
  | x :: r, h => by
    rw [Lib.join_cons, List.length_append, Lib.joinTail_length]
    have hx := h x (by simp)
    have hr : ∀ (r : List (List UInt8)), (∀ y ∈ r, y.length ≤ 21) → Lib.lens r ≤ 21 * r.length := by
      intro r
      induction r with
      | nil => intro _; simp [Lib.lens]
      | cons y r ih =>
        intro hy
        have h1 := hy y (by simp)
        have h2 := ih (fun z hz => hy z (by simp [hz]))
        have e : Lib.lens (y :: r) = y.length + Lib.lens r := by simp [Lib.lens]
        rw [e, List.length_cons]
        omega
    have := hr r (fun z hz => h z (by simp [hz]))
    simp only [List.length_cons, List.length_nil]
    omega
theorem join_snoc (xs : List (List UInt8)) (y : List UInt8) (h : xs ≠ []) : Lib.join (xs ++ [y]) [32] = Lib.join xs [32] ++ [32] ++ y := by
  cases xs with
  | nil => exact absurd rfl h
  | cons x r =>
    rw [List.cons_append, Lib.join_cons, Lib.join_cons]
    simp [Lib.joinTail]
/-- What FormatTokens answers. -/
def fmtM (l : List S43) : ByteArray × Bool := if l.length ≤ 60 ∧ allFrom (tokAt l) l.length 0 = true then (⟨(Lib.join (l.map txt) [32]).toArray⟩, true) else (⟨#[]⟩, false)
theorem spec_text (x : S43) (h : tokenB x.f0 x.f1 = true) : Ev (fun k => spec_l04Text.f k x.f0 x.f1) ⟨(txt x).toArray⟩ := by
  unfold spec_l04Text.f txt
  by_cases he : x.f0.toList = ([] : List UInt8)
  · have hn := tok_num x h he
    simp only [if_pos he]
    refine Ev.bind (spec_fmt _ (by omega) (by omega)) ?_
    exact Ev.now _
  · simp only [if_neg he]
    exact Ev.now _
theorem spec_ft_loop (l : List S43) (hl : l.length ≤ 1048576) (hs : ∀ x ∈ l, x.f0.size ≤ 1048576) : ∀ (d i : Nat), i + d = l.length → (l.length ≤ 60 ∨ i = 0) → (∀ x ∈ l.take i, tokenB x.f0 x.f1 = true) →
    Ev (fun k => spec_FormatTokens.l0 k l ⟨(Lib.join ((l.take i).map txt) [32]).toArray⟩ (i : Int)) (if l.length ≤ 60 ∧ allFrom (tokAt l) l.length i = true then (⟨(Lib.join (l.map txt) [32]).toArray⟩, true) else (⟨#[]⟩, false)) := by
  intro d
  induction d with
  | zero =>
    intro i hi h60 ht
    refine Ev.step (fun k => spec_FormatTokens.l0.eq_2 _ _ _ k) ?_
    simp only [if_neg (show ¬ (i : Int) < (l.length : Int) by omega)]
    rw [List.take_of_length_le (by omega), show i = l.length by omega, all_end, if_pos ⟨by omega, rfl⟩]
    exact Ev.now _
  | succ d ih =>
    intro i hi h60 ht
    have hil : i < l.length := by omega
    refine Ev.step (fun k => spec_FormatTokens.l0.eq_2 _ _ _ k) ?_
    simp only [if_pos (show (i : Int) < (l.length : Int) by omega), if_pos (show (0 : Int) ≤ (i : Int) by omega)]
    refine Ev.bind (spec_token _ _ (rd_size l hs i hil)) ?_
    rw [all_step _ _ _ hil]
    change Ev (fun k => if tokAt l i = true then _ else _) _
    have hti : tokAt l i = tokenB l[i].f0 l[i].f1 := by
      unfold tokAt
      rw [rdiToken_lt l i hil]
    cases hx : tokAt l i with
    | false =>
      simp only [Bool.false_eq_true, if_false, Bool.false_and]
      rw [if_neg (by simp)]
      refine Ev.step (fun k => spec_FormatTokens.j1.eq_2 _ _ _ _ k) ?_
      simp only [if_true]
      exact Ev.now _
    | true =>
      simp only [if_true, Bool.true_and]
      refine Ev.step (fun k => spec_FormatTokens.j1.eq_2 _ _ _ _ k) ?_
      by_cases hn : (l.length : Int) > 60
      · simp only [decide_eq_true hn, if_true]
        rw [if_neg (by omega)]
        exact Ev.now _
      simp only [decide_eq_false hn, Bool.false_eq_true, if_false]
      have hx' : tokenB l[i].f0 l[i].f1 = true := by rw [← hti]; exact hx
      have htl := txt_len l[i] hx'
      have htk : ∀ x ∈ l.take (i + 1), tokenB x.f0 x.f1 = true := by
        intro x hm
        rw [List.take_succ_eq_append_getElem hil, List.mem_append, List.mem_singleton] at hm
        rcases hm with hm | rfl
        · exact ht x hm
        · exact hx'
      have hj := join_len ((l.take i).map txt) (fun y hy => by
        obtain ⟨x, hm, rfl⟩ := List.mem_map.1 hy
        exact txt_len x (ht x hm))
      rw [List.length_map, List.length_take] at hj
      have next := ih (i + 1) (by omega) (Or.inl (by omega)) htk
      rw [List.take_succ_eq_append_getElem hil, List.map_append, List.map_cons, List.map_nil] at next
      by_cases h0 : (i : Int) > 0
      · have hne : (l.take i).map txt ≠ [] := by
          intro h
          have := congrArg List.length h
          rw [List.length_map, List.length_take, List.length_nil] at this
          omega
        rw [join_snoc _ _ hne] at next
        simp only [if_pos h0, size_mk, if_pos (show (Lib.join ((l.take i).map txt) [32]).length + 1 ≤ 9223372036854775807 by omega), if_pos (show (0 : Int) ≤ (i : Int) by omega), if_pos (show (i : Int) < (l.length : Int) by omega), rdiToken_lt l i hil]
        refine Ev.bind (spec_text l[i] hx') ?_
        rw [show (⟨#[32]⟩ : ByteArray) = ⟨[(32 : UInt8)].toArray⟩ from rfl, str_app, str_app]
        simp only [size_mk, List.length_append, List.length_cons, List.length_nil, wrap_succ i (by omega), if_pos (show (Lib.join ((l.take i).map txt) [32]).length + (0 + 1) + (txt l[i]).length ≤ 9223372036854775807 by omega)]
        exact next
      · have hi0 : i = 0 := by omega
        subst hi0
        simp only [if_neg h0, if_pos (show (0 : Int) ≤ ((0 : Nat) : Int) by omega), if_pos (show ((0 : Nat) : Int) < (l.length : Int) by omega), rdiToken_lt l 0 hil]
        refine Ev.bind (spec_text l[0] hx') ?_
        simp only [List.take_zero, List.map_nil, List.nil_append, Lib.join_one] at next ⊢
        rw [Lib.join_nil, str_app]
        simp only [size_mk, List.length_nil, List.nil_append, wrap_succ 0 (by omega), if_pos (show 0 + (txt l[0]).length ≤ 9223372036854775807 by omega)]
        exact next
theorem spec_format (l : List S43) (hl : l.length ≤ 1048576) (hs : ∀ x ∈ l, x.f0.size ≤ 1048576) : Ev (fun k => spec_FormatTokens.f k l) (fmtM l) := by
  unfold spec_FormatTokens.f fmtM
  exact spec_ft_loop l hl hs l.length 0 (by omega) (Or.inr rfl) (by simp)
theorem impl_fmtint (n : Int) (h0 : -9223372036854775808 ≤ n) (h1 : n ≤ 9223372036854775807) : impl_FormatInt.f n = some ⟨(Lib.itoa n).toArray⟩ := by
  unfold impl_FormatInt.f
  rw [if_pos ⟨h0, h1⟩]
theorem tok_all (l : List S43) (h : allFrom (tokAt l) l.length 0 = true) : ∀ x ∈ l, tokenB x.f0 x.f1 = true := by
  intro x hx
  obtain ⟨j, hj, rfl⟩ := List.getElem_of_mem hx
  have := (all_iff (tokAt l) l.length 0).1 h j (Nat.zero_le _) hj
  unfold tokAt at this
  rw [rdiToken_lt l j hj] at this
  exact this
theorem mk_txt (x : S43) (h : ¬ x.f0.toList = ([] : List UInt8)) : (⟨(txt x).toArray⟩ : ByteArray) = x.f0 := by
  unfold txt
  rw [if_neg h]
theorem impl_ft_loop (l : List S43) (hl : l.length ≤ 60) (ht : ∀ x ∈ l, tokenB x.f0 x.f1 = true) : ∀ (d i : Nat) (out : List ByteArray), i + d = l.length → out = (l.take i).map (fun x => (⟨(txt x).toArray⟩ : ByteArray)) →
    Ev (fun k => impl_FormatTokens.l0 k out l (l.length : Int) (i : Int)) (⟨(Lib.join (l.map txt) [32]).toArray⟩, true) := by
  intro d
  induction d with
  | zero =>
    intro i out hi ho
    refine Ev.step (fun k => impl_FormatTokens.l0.eq_2 _ _ _ _ k) ?_
    simp only [if_neg (show ¬ (i : Int) < (l.length : Int) by omega)]
    rw [List.take_of_length_le (by omega)] at ho
    have e : out.map (·.data.toList) = l.map txt := by
      rw [ho, List.map_map]
      exact List.map_congr_left fun x _ => rfl
    have hj := join_len (l.map txt) (fun y hy => by
      obtain ⟨x, hx, rfl⟩ := List.mem_map.1 hy
      exact txt_len x (ht x hx))
    rw [List.length_map] at hj
    have hlo : out.length = l.length := by rw [ho, List.length_map]
    unfold strings_Join.f
    rw [e]
    have e32 : (⟨#[32]⟩ : ByteArray).data.toList = [32] := rfl
    rw [e32, if_pos ⟨by omega, by omega⟩]
    simp only [Option.bind_some]
    exact Ev.now _
  | succ d ih =>
    intro i out hi ho
    have hil : i < l.length := by omega
    have hx := ht l[i] (List.getElem_mem _)
    have hlo : out.length ≤ 60 := by rw [ho, List.length_map, List.length_take]; omega
    have hnext : out ++ [(⟨(txt l[i]).toArray⟩ : ByteArray)] = (l.take (i + 1)).map (fun x => (⟨(txt x).toArray⟩ : ByteArray)) := by
      rw [List.take_succ_eq_append_getElem hil, List.map_append, ho]
      rfl
    refine Ev.step (fun k => impl_FormatTokens.l0.eq_2 _ _ _ _ k) ?_
    simp only [if_pos (show (i : Int) < (l.length : Int) by omega), if_pos (show (0 : Int) ≤ (i : Int) by omega), rdiToken_lt l i hil, wrap_succ i (by omega), if_pos (show out.length < 8796093022208 by omega)]
    by_cases he : l[i].f0.toList = ([] : List UInt8)
    · have hn := tok_num l[i] hx he
      simp only [if_pos he, impl_fmtint _ (show -9223372036854775808 ≤ l[i].f1 by omega) (show l[i].f1 ≤ 9223372036854775807 by omega), Option.bind_some]
      have e : Lib.itoa l[i].f1 = txt l[i] := by unfold txt; rw [if_pos he]
      rw [e]
      exact ih (i + 1) _ (by omega) hnext
    · simp only [if_neg he]
      rw [← mk_txt l[i] he]
      exact ih (i + 1) _ (by omega) hnext
theorem impl_format (l : List S43) (hl : l.length ≤ 1048576) (hs : ∀ x ∈ l, x.f0.size ≤ 1048576) : Ev (fun k => impl_FormatTokens.f k l) (fmtM l) := by
  unfold impl_FormatTokens.f fmtM
  by_cases h : (l.length : Int) > 60
  · simp only [if_pos h]
    rw [if_neg (by omega)]
    refine Ev.step (fun k => impl_FormatTokens.j0.eq_2 _ _ k) ?_
    simp only [if_true]
    exact Ev.now _
  · simp only [if_neg h]
    refine Ev.bind (impl_tokens l hl hs) ?_
    refine Ev.step (fun k => impl_FormatTokens.j0.eq_2 _ _ k) ?_
    cases ha : allFrom (tokAt l) l.length 0 with
    | false =>
      rw [if_neg (by simp)]
      simp only [Bool.not_false, if_true]
      exact Ev.now _
    | true =>
      rw [if_pos ⟨by omega, rfl⟩]
      simp only [Bool.not_true, Bool.false_eq_true, if_false]
      exact impl_ft_loop l (by omega) (tok_all l ha) l.length 0 [] (by omega) rfl
theorem FnExactFormatTokens (l : List S63) (hl : l.length ≤ 9223372036854775807) (hs : ∀ x ∈ l, x.f0.size ≤ maxLen ∧ (Lit.int .i64 x.f1).wf = true) : ∃ k, laws_FnExactFormatTokens.f k l = some true := by
  refine Ev.rounds ?_
  simp only [laws_FnExactFormatTokens.f]
  obtain ⟨v, ev, hv⟩ := sz_tokens l hl fun x hx => (hs x hx).1
  refine Ev.bind ev ?_
  by_cases h : v < 0
  · simp only [if_pos h]
    exact Ev.now _
  · simp only [if_neg h]
    obtain ⟨hn, hz⟩ := hv (by omega)
    have hz := cv_sizes l hz
    have hm : (l.map cvToken).length ≤ 1048576 := by
      simp
      omega
    refine Ev.bind (toTokens l hn) ?_
    refine Ev.bind (spec_format _ hm hz) ?_
    refine Ev.bind (toTokens l hn) ?_
    refine Ev.bind (impl_format _ hm hz) ?_
    simp only [if_true, bne_self_eq_false]
    refine Ev.step (fun k => laws_FnExactFormatTokens.j0.eq_2 _ _ _ k) ?_
    simp only [Bool.false_eq_true, if_false]
    refine Ev.bind (toTokens l hn) ?_
    refine Ev.bind (eqTokens _ (by omega)) ?_
    simp only [if_true]
    exact Ev.now _

end Go.Proofs.YtbfeaekgbgfcjaaDoor.Pure

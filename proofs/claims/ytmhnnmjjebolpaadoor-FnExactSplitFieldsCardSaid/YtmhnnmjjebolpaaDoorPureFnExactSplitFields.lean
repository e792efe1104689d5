/- The program's SplitFields returns what the reference's returns, for all arguments. This is its pure statement, over numbers and lists, as printed from the program; the row is built on it.
   Conditions: none. -/
import Derived.Test.YtmhnnmjjebolpaaDoorGFnExactSplitFieldsx3
namespace Go.Proofs.YtmhnnmjjebolpaaDoor.Pure
set_option linter.unusedSimpArgs false
set_option linter.unusedVariables false
open Go.RowKit Go.Proofs.YtmhnnmjjebolpaaDoor.GFnExactSplitFields Go.Proofs.YtmhnnmjjebolpaaDoorW.PrintWords Go.Proofs.YtmhnnmjjebolpaaDoorW.PrintLast

theorem wrap_id {x : Int} (h0 : -9223372036854775808 ≤ x) (h1 : x ≤ 9223372036854775807) : wrap64 x = x := by
  unfold wrap64
  omega
theorem wrap_succ (i : Nat) (h : i < 4611686018427387904) : wrap64 ((i : Int) + 1) = ((i + 1 : Nat) : Int) := by
  rw [wrap_id (by omega) (by omega)]
  omega
theorem rd_lt (l : List Int) (i : Nat) (h : i < l.length) : rd l (i : Int) = l[i] := by
  unfold rd
  rw [Int.toNat_natCast, List.getD_eq_getElem?_getD, List.getElem?_eq_getElem h]
  rfl
theorem set_take {α : Type} (l x : List α) (i : Nat) (hi : i < l.length) (hx : x.length = l.length) (h : x.take i = l.take i) :
    (x.set i l[i]).take (i + 1) = l.take (i + 1) := by
  rw [List.take_succ_eq_append_getElem (by simp; omega), List.take_succ_eq_append_getElem hi, List.getElem_set_self, List.take_set_of_le (Nat.le_refl i), h]
def allFrom (p : Nat → Bool) (n i : Nat) : Bool := (List.range' i (n - i)).all p
theorem all_end (p : Nat → Bool) (n : Nat) : allFrom p n n = true := by simp [allFrom]
theorem all_step (p : Nat → Bool) (n i : Nat) (h : i < n) : allFrom p n i = (p i && allFrom p n (i + 1)) := by
  unfold allFrom
  rw [show n - i = (n - (i + 1)) + 1 by omega, List.range'_succ, List.all_cons]
theorem all_iff (p : Nat → Bool) (n i : Nat) : allFrom p n i = true ↔ ∀ j, i ≤ j → j < n → p j = true := by
  unfold allFrom
  rw [List.all_eq_true]
  constructor
  · intro h j h1 h2
    exact h j (List.mem_range'_1.2 ⟨h1, by omega⟩)
  · intro h j hj
    have := List.mem_range'_1.1 hj
    exact h j this.1 (by omega)
theorem bt_get (a : ByteArray) (i : Nat) (h : i < a.size) : bt a (i : Int) = ((a.data.getD i 0).toNat : Int) := by
  have e : a.data.getD i 0 = a[i] := by
    rw [Array.getD_eq_getD_getElem?, Array.getElem?_eq_getElem (show i < a.data.size from h)]
    rfl
  rw [e]
  unfold bt
  rw [dif_pos (show (i : Int).toNat < a.size by omega)]
  rfl
theorem drop_bytes (a : ByteArray) (i : Nat) (h : i < a.size) : a.data.toList.drop i = a.data.getD i 0 :: a.data.toList.drop (i + 1) := by
  have hl : i < a.data.toList.length := by rw [Array.length_toList]; exact h
  rw [List.drop_eq_getElem_cons hl]
  congr 1
  rw [Array.getD_eq_getD_getElem?, Array.getElem?_eq_getElem (show i < a.data.size from h), Array.getElem_toList]
  rfl
theorem size_toList (a : ByteArray) : a.data.toList.length = a.size := by rw [Array.length_toList]; rfl
theorem size_mk (l : List UInt8) : (⟨l.toArray⟩ : ByteArray).size = l.length := by simp [ByteArray.size]
theorem toList_mk (l : List UInt8) : (⟨l.toArray⟩ : ByteArray).toList = l := by rw [Lib.toList_data]
/-- The pieces between spaces, 'cur' the begun one. -/
def pc : List UInt8 → List UInt8 → List (List UInt8)
  | [], cur => [cur]
  | u :: r, cur => if u = 32 then cur :: pc r [] else pc r (cur ++ [u])
theorem pc_miss : ∀ (l cur : List UInt8), Lib.indexByte l 32 = -1 → pc l cur = [cur ++ l]
  | [], cur, _ => by simp [pc]
  | u :: r, cur, h => by
    unfold Lib.indexByte at h
    by_cases hu : u = 32
    · subst hu
      simp at h
    · have hb : (u == 32) = false := beq_eq_false_iff_ne.2 hu
      rw [hb] at h
      simp only [Bool.false_eq_true, if_false] at h
      have hr : Lib.indexByte r 32 = -1 := by
        by_cases h1 : Lib.indexByte r 32 = -1
        · exact h1
        · have h2 : (Lib.indexByte r 32 == -1) = false := beq_eq_false_iff_ne.2 h1
          rw [h2] at h
          simp only [Bool.false_eq_true, if_false] at h
          have := Lib.indexByte_ge r 32
          omega
      rw [pc, if_neg hu, pc_miss r _ hr]
      simp
theorem pc_hit : ∀ (l cur : List UInt8) (i : Nat), Lib.indexByte l 32 = (i : Int) → pc l cur = (cur ++ l.take i) :: pc (l.drop (i + 1)) []
  | [], cur, i, h => by
    unfold Lib.indexByte at h
    omega
  | u :: r, cur, i, h => by
    unfold Lib.indexByte at h
    by_cases hu : u = 32
    · subst hu
      simp only [beq_self_eq_true, if_true] at h
      obtain rfl : i = 0 := by omega
      simp [pc]
    · have hb : (u == 32) = false := beq_eq_false_iff_ne.2 hu
      rw [hb] at h
      simp only [Bool.false_eq_true, if_false] at h
      by_cases h1 : Lib.indexByte r 32 = -1
      · have h2 : (Lib.indexByte r 32 == -1) = true := beq_iff_eq.2 h1
        rw [h2] at h
        simp only [if_true] at h
        omega
      · have h2 : (Lib.indexByte r 32 == -1) = false := beq_eq_false_iff_ne.2 h1
        rw [h2] at h
        simp only [Bool.false_eq_true, if_false] at h
        have hg := Lib.indexByte_ge r 32
        obtain ⟨j, rfl⟩ : ∃ j, i = j + 1 := ⟨i - 1, by omega⟩
        rw [pc, if_neg hu, pc_hit r _ j (by omega)]
        simp
theorem split_pc : ∀ (d : Nat) (l : List UInt8), l.length ≤ d → Lib.splitK [32] 0 (Lib.count l [32]) l = pc l [] := by
  intro d
  induction d with
  | zero =>
    intro l hl
    have : l = [] := List.length_eq_zero_iff.1 (by omega)
    subst this
    rfl
  | succ d ih =>
    intro l hl
    have hg := Lib.indexByte_ge l 32
    by_cases h : Lib.indexByte l 32 = -1
    · rw [Lib.count_miss (by rw [Lib.index_one]; exact h), pc_miss l [] h]
      rfl
    · obtain ⟨i, hi⟩ : ∃ i : Nat, Lib.indexByte l 32 = i := ⟨(Lib.indexByte l 32).toNat, by omega⟩
      have hx : Lib.index l [32] = i := by rw [Lib.index_one]; exact hi
      have hroom := Lib.index_room l [32] (by rw [hx]; omega)
      rw [hx] at hroom
      have e : ((i : Int) == -1) = false := by rw [beq_eq_false_iff_ne]; omega
      rw [Lib.count_hit (by simp) hx, Nat.add_comm 1, Lib.splitK, hx, e]
      simp only [Bool.false_eq_true, if_false, Int.toNat_natCast, Nat.add_zero, List.length_cons, List.length_nil, Nat.zero_add] at hroom ⊢
      rw [ih _ (by rw [List.length_drop]; omega), pc_hit l [] i hi]
      simp
def mkB (l : List UInt8) : ByteArray := ⟨l.toArray⟩
theorem mkB_data (a : ByteArray) : mkB a.data.toList = a := rfl
theorem split_mk (a : ByteArray) : Lib.splitB ⟨#[32]⟩ 0 (Lib.countB a ⟨#[32]⟩) a = (pc a.data.toList []).map mkB := by
  have h := Lib.splitB_data ⟨#[32]⟩ 0 (Lib.countB a ⟨#[32]⟩) a
  have h2 := split_pc a.data.toList.length a.data.toList (Nat.le_refl _)
  rw [← h2]
  have h3 : Lib.splitK (⟨#[32]⟩ : ByteArray).data.toList 0 (Lib.countB a ⟨#[32]⟩) a.data.toList = Lib.splitK [32] 0 (Lib.count a.data.toList [32]) a.data.toList := rfl
  rw [← h3, ← h, List.map_map]
  exact ((List.map_congr_left fun x _ => mkB_data x).trans (List.map_id _)).symm
/-- The pieces that are not empty. -/
def flds (l cur : List UInt8) : List (List UInt8) := (pc l cur).filter fun p => !p.isEmpty
def okB (l : List UInt8) : Bool := l.all fun u => decide (32 ≤ u.toNat ∧ u.toNat ≤ 126)
def fin2 (F : List ByteArray) : List ByteArray × Bool := if F.length > 24 then ([], false) else (F, true)
/-- What SplitFields answers. -/
def splM (l : List UInt8) : List ByteArray × Bool := if l.length > 600 then ([], false) else if okB l = true then fin2 ((flds l []).map mkB) else ([], false)
theorem flds_nil (cur : List UInt8) : flds [] cur = if cur = [] then [] else [cur] := by
  unfold flds pc
  cases cur <;> simp
theorem flds_sp (r cur : List UInt8) : flds (32 :: r) cur = (if cur = [] then [] else [cur]) ++ flds r [] := by
  unfold flds
  rw [pc, if_pos rfl]
  cases cur <;> simp
theorem flds_by (u : UInt8) (r cur : List UInt8) (h : u ≠ 32) : flds (u :: r) cur = flds r (cur ++ [u]) := by
  unfold flds
  rw [pc, if_neg h]
theorem pc_len : ∀ (l cur : List UInt8), (pc l cur).length ≤ l.length + 1
  | [], cur => by simp [pc]
  | u :: r, cur => by
    rw [pc]
    split
    · have := pc_len r []
      simp only [List.length_cons]; omega
    · have := pc_len r (cur ++ [u])
      simp only [List.length_cons]; omega
theorem flds_len (l cur : List UInt8) : (flds l cur).length ≤ l.length + 1 := Nat.le_trans (List.length_filter_le _ _) (pc_len l cur)
theorem mkB_eq_nil (l : List UInt8) : (mkB l).toList = [] ↔ l = [] := by
  rw [Lib.toList_data]
  exact Iff.rfl
theorem rdOf_lt (l : List ByteArray) (i : Nat) (h : i < l.length) : rdOf ByteArray.empty l (i : Int) = l[i] := by
  unfold rdOf
  rw [Int.toNat_natCast, List.getD_eq_getElem?_getD, List.getElem?_eq_getElem h]
  rfl
theorem impl_spl1 (P : List (List UInt8)) (hP : P.length ≤ 1000) : ∀ (d i : Nat) (out : List ByteArray), i + d = P.length → out.length ≤ i →
    Ev (fun k => impl_SplitFields.l1 k out (P.map mkB) (P.length : Int) (i : Int)) (fin2 (out ++ ((P.drop i).filter fun p => !p.isEmpty).map mkB)) := by
  intro d
  induction d with
  | zero =>
    intro i out hi ho
    refine Ev.step (fun k => impl_SplitFields.l1.eq_2 _ _ _ _ k) ?_
    simp only [if_neg (show ¬ (i : Int) < (P.length : Int) by omega)]
    rw [List.drop_of_length_le (by omega)]
    simp only [List.filter_nil, List.map_nil, List.append_nil]
    unfold fin2
    by_cases h : (out.length : Int) > 24
    · simp only [if_pos h, if_pos (show out.length > 24 by omega)]
      exact Ev.now _
    · simp only [if_neg h, if_neg (show ¬ out.length > 24 by omega)]
      exact Ev.now _
  | succ d ih =>
    intro i out hi ho
    have hl : i < P.length := by omega
    have hm : i < (P.map mkB).length := by simpa using hl
    refine Ev.step (fun k => impl_SplitFields.l1.eq_2 _ _ _ _ k) ?_
    rw [List.drop_eq_getElem_cons hl]
    simp only [if_pos (show (i : Int) < (P.length : Int) by omega), if_pos (show (0 : Int) ≤ (i : Int) by omega), if_pos (show (i : Int) < ((P.map mkB).length : Int) by simp; omega), rdOf_lt _ i hm, List.getElem_map, wrap_succ i (by omega)]
    by_cases he : P[i] = []
    · simp only [if_pos ((mkB_eq_nil _).2 he)]
      have h := ih (i + 1) out (by omega) (by omega)
      rw [List.filter_cons, he]
      exact h
    · simp only [if_neg (fun x => he ((mkB_eq_nil _).1 x)), if_pos (show out.length < 8796093022208 by omega)]
      have h := ih (i + 1) (out ++ [mkB P[i]]) (by omega) (by simp; omega)
      have hb : (!(P[i]).isEmpty) = true := by
        cases hp : P[i] with
        | nil => exact absurd hp he
        | cons a b => rfl
      rw [List.filter_cons, if_pos hb, List.map_cons]
      rw [List.append_assoc] at h
      exact h
theorem impl_spl0 (a : ByteArray) (ha : a.size ≤ 600) : ∀ (d i : Nat), i + d = a.size →
    Ev (fun k => impl_SplitFields.l0 k a (i : Int)) (if okB (a.data.toList.drop i) = true then fin2 ((flds a.data.toList []).map mkB) else ([], false)) := by
  intro d
  induction d with
  | zero =>
    intro i hi
    refine Ev.step (fun k => impl_SplitFields.l0.eq_2 _ _ k) ?_
    simp only [if_neg (show ¬ (i : Int) < (a.size : Int) by omega)]
    rw [List.drop_of_length_le (by rw [size_toList]; omega)]
    rw [if_pos (show okB [] = true from rfl)]
    unfold strings_Split.f
    have h1 : (⟨#[32]⟩ : ByteArray).size = 1 := rfl
    rw [if_pos ⟨by omega, by omega⟩, split_mk]
    have hl := pc_len a.data.toList []
    rw [size_toList] at hl
    simp only [Option.bind_some, List.length_map]
    exact impl_spl1 (pc a.data.toList []) (by omega) _ 0 [] (Nat.zero_add _) (Nat.le_refl _)
  | succ d ih =>
    intro i hi
    have hu : (a.data.getD i 0).toNat < 256 := (a.data.getD i 0).toNat_lt
    refine Ev.step (fun k => impl_SplitFields.l0.eq_2 _ _ k) ?_
    simp only [if_pos (show (i : Int) < (a.size : Int) by omega), if_pos (show (0 : Int) ≤ (i : Int) by omega), bt_get a i (by omega), wrap_succ i (by omega)]
    rw [drop_bytes a i (by omega)]
    have ho : okB (a.data.getD i 0 :: a.data.toList.drop (i + 1)) = (decide (32 ≤ (a.data.getD i 0).toNat ∧ (a.data.getD i 0).toNat ≤ 126) && okB (a.data.toList.drop (i + 1))) := rfl
    rw [ho]
    generalize (a.data.getD i 0).toNat = u at hu
    by_cases h1 : (u : Int) < 32
    · simp only [if_pos h1]
      rw [decide_eq_false (by omega), Bool.false_and]
      exact Ev.now _
    simp only [if_neg h1]
    by_cases h2 : (u : Int) > 126
    · simp only [if_pos h2]
      rw [decide_eq_false (by omega), Bool.false_and]
      exact Ev.now _
    simp only [if_neg h2]
    rw [decide_eq_true (by omega), Bool.true_and]
    exact ih (i + 1) (by omega)
theorem impl_split (a : ByteArray) : Ev (fun k => impl_SplitFields.f k a) (splM a.data.toList) := by
  unfold impl_SplitFields.f splM
  rw [size_toList]
  by_cases h : (a.size : Int) > 600
  · simp only [if_pos h, if_pos (show a.size > 600 by omega)]
    exact Ev.now _
  · simp only [if_neg h, if_neg (show ¬ a.size > 600 by omega)]
    exact impl_spl0 a (by omega) a.size 0 (by omega)
theorem cut_bytes (a : ByteArray) (b i : Nat) : a.extract b i = mkB ((a.data.toList.drop b).take (i - b)) := by
  apply ByteArray.ext
  show (a.extract b i).data = _
  rw [ByteArray.data_extract]
  apply Array.ext'
  simp [mkB, Array.toList_extract, List.extract]
theorem cut_grow (a : ByteArray) (b i : Nat) (hb : b ≤ i) (hi : i < a.size) : (a.data.toList.drop b).take (i + 1 - b) = (a.data.toList.drop b).take (i - b) ++ [a.data.getD i 0] := by
  have hl : i < a.data.toList.length := by rw [size_toList]; exact hi
  rw [show i + 1 - b = (i - b) + 1 by omega, List.take_succ_eq_append_getElem (by rw [List.length_drop]; omega)]
  congr 2
  rw [List.getElem_drop]
  have e : b + (i - b) = i := by omega
  simp only [e]
  rw [Array.getD_eq_getD_getElem?, Array.getElem?_eq_getElem (show i < a.data.size from hi), Array.getElem_toList]
  rfl
theorem spec_spl (a : ByteArray) (ha : a.size ≤ 600) : ∀ (d i b : Nat) (out : List ByteArray), i + d = a.size → b ≤ i → out.length ≤ i →
    Ev (fun k => spec_SplitFields.l0 k a out (b : Int) (i : Int)) (if okB (a.data.toList.drop i) = true then fin2 (out ++ (flds (a.data.toList.drop i) ((a.data.toList.drop b).take (i - b))).map mkB) else ([], false)) := by
  intro d
  induction d with
  | zero =>
    intro i b out hi hb ho
    have hend : ∀ (o : List ByteArray) (x : Int), Ev (fun k => spec_SplitFields.l0 k a o x ((i + 1 : Nat) : Int)) (fin2 o) := by
      intro o x
      refine Ev.step (fun k => spec_SplitFields.l0.eq_2 _ _ _ _ k) ?_
      simp only [if_neg (show ¬ ((i + 1 : Nat) : Int) ≤ (a.size : Int) by omega)]
      unfold fin2
      by_cases h : (o.length : Int) > 24
      · simp only [if_pos h, if_pos (show o.length > 24 by omega)]
        exact Ev.now _
      · simp only [if_neg h, if_neg (show ¬ o.length > 24 by omega)]
        exact Ev.now _
    refine Ev.step (fun k => spec_SplitFields.l0.eq_2 _ _ _ _ k) ?_
    simp only [if_pos (show (i : Int) ≤ (a.size : Int) by omega), if_neg (show ¬ (i : Int) < (a.size : Int) by omega)]
    refine Ev.step (fun k => spec_SplitFields.j1.eq_2 _ _ _ _ _ k) ?_
    simp only [Bool.false_eq_true, if_false, if_neg (show ¬ (i : Int) < (a.size : Int) by omega)]
    refine Ev.step (fun k => spec_SplitFields.j2.eq_2 _ _ _ _ _ k) ?_
    simp only [Bool.false_eq_true, if_false, wrap_succ i (by omega), Int.toNat_natCast]
    rw [List.drop_of_length_le (i := i) (by rw [size_toList]; omega), if_pos (show okB [] = true from rfl), flds_nil]
    by_cases hlt : (b : Int) < (i : Int)
    · simp only [if_pos hlt, if_pos (show (0 : Int) ≤ (b : Int) by omega), if_pos (show (b : Int) ≤ (i : Int) by omega), if_pos (show (i : Int) ≤ (a.size : Int) by omega), if_pos (show out.length < 8796093022208 by omega), cut_bytes]
      have hne : (a.data.toList.drop b).take (i - b) ≠ [] := by
        intro h
        have := congrArg List.length h
        rw [List.length_take, List.length_drop, size_toList] at this
        simp at this
        omega
      rw [if_neg hne]
      exact hend _ _
    · simp only [if_neg hlt]
      have he : (a.data.toList.drop b).take (i - b) = [] := by rw [show i - b = 0 by omega]; rfl
      rw [if_pos he]
      simp only [List.map_nil, List.append_nil]
      exact hend _ _
  | succ d ih =>
    intro i b out hi hb ho
    have hu : (a.data.getD i 0).toNat < 256 := (a.data.getD i 0).toNat_lt
    refine Ev.step (fun k => spec_SplitFields.l0.eq_2 _ _ _ _ k) ?_
    simp only [if_pos (show (i : Int) ≤ (a.size : Int) by omega), if_pos (show (i : Int) < (a.size : Int) by omega), if_pos (show (0 : Int) ≤ (i : Int) by omega), bt_get a i (by omega)]
    rw [drop_bytes a i (by omega)]
    have hok : okB (a.data.getD i 0 :: a.data.toList.drop (i + 1)) = (decide (32 ≤ (a.data.getD i 0).toNat ∧ (a.data.getD i 0).toNat ≤ 126) && okB (a.data.toList.drop (i + 1))) := rfl
    rw [hok]
    by_cases h1 : ((a.data.getD i 0).toNat : Int) < 32
    · simp only [if_pos h1]
      rw [decide_eq_false (by omega), Bool.false_and]
      refine Ev.step (fun k => spec_SplitFields.j1.eq_2 _ _ _ _ _ k) ?_
      simp only [if_true]
      exact Ev.now _
    simp only [if_neg h1]
    refine Ev.step (fun k => spec_SplitFields.j1.eq_2 _ _ _ _ _ k) ?_
    by_cases h2 : ((a.data.getD i 0).toNat : Int) > 126
    · simp only [decide_eq_true h2, if_true]
      rw [decide_eq_false (by omega), Bool.false_and]
      exact Ev.now _
    simp only [decide_eq_false h2, Bool.false_eq_true, if_false, if_pos (show (i : Int) < (a.size : Int) by omega), if_pos (show (0 : Int) ≤ (i : Int) by omega), bt_get a i (by omega)]
    rw [decide_eq_true (by omega), Bool.true_and]
    refine Ev.step (fun k => spec_SplitFields.j2.eq_2 _ _ _ _ _ k) ?_
    by_cases h3 : a.data.getD i 0 = 32
    · have e3 : (((a.data.getD i 0).toNat : Int) != 32) = false := by rw [h3]; rfl
      simp only [e3, Bool.false_eq_true, if_false, wrap_succ i (by omega), Int.toNat_natCast]
      rw [h3, flds_sp]
      have hnil : (a.data.toList.drop (i + 1)).take (i + 1 - (i + 1)) = [] := by rw [Nat.sub_self]; rfl
      by_cases hlt : (b : Int) < (i : Int)
      · simp only [if_pos hlt, if_pos (show (0 : Int) ≤ (b : Int) by omega), if_pos (show (b : Int) ≤ (i : Int) by omega), if_pos (show (i : Int) ≤ (a.size : Int) by omega), if_pos (show out.length < 8796093022208 by omega), cut_bytes]
        have hne : (a.data.toList.drop b).take (i - b) ≠ [] := by
          intro h
          have := congrArg List.length h
          rw [List.length_take, List.length_drop, size_toList] at this
          simp at this
          omega
        rw [if_neg hne]
        have h := ih (i + 1) (i + 1) (out ++ [mkB ((a.data.toList.drop b).take (i - b))]) (by omega) (Nat.le_refl _) (by simp; omega)
        rw [hnil] at h
        rw [List.map_append, List.map_cons, List.map_nil, ← List.append_assoc]
        exact h
      · simp only [if_neg hlt]
        have he : (a.data.toList.drop b).take (i - b) = [] := by rw [show i - b = 0 by omega]; rfl
        rw [if_pos he, List.nil_append]
        have h := ih (i + 1) (i + 1) out (by omega) (Nat.le_refl _) (by omega)
        rw [hnil] at h
        exact h
    · have e3 : (((a.data.getD i 0).toNat : Int) != 32) = true := by
        rw [bne_iff_ne]
        intro h
        apply h3
        apply UInt8.toNat_inj.1
        show _ = 32
        omega
      simp only [e3, if_true, wrap_succ i (by omega)]
      rw [flds_by _ _ _ h3]
      have h := ih (i + 1) b out (by omega) (by omega) (by omega)
      rw [cut_grow a b i hb (by omega)] at h
      exact h
theorem spec_split (a : ByteArray) : Ev (fun k => spec_SplitFields.f k a) (splM a.data.toList) := by
  unfold spec_SplitFields.f splM
  rw [size_toList]
  simp only [Option.bind_some]
  by_cases h : (a.size : Int) > 600
  · simp only [if_pos h, if_pos (show a.size > 600 by omega)]
    exact Ev.now _
  · simp only [if_neg h, if_neg (show ¬ a.size > 600 by omega)]
    exact spec_spl a (by omega) a.size 0 0 [] (by omega) (Nat.le_refl _) (Nat.le_refl _)
theorem str_app (a b : List UInt8) : (⟨a.toArray⟩ : ByteArray) ++ ⟨b.toArray⟩ = ⟨(a ++ b).toArray⟩ := by
  apply ByteArray.ext
  rw [ByteArray.data_append]
  simp
theorem nDigits_le : ∀ (k m : Nat), m < 10 ^ (k + 1) → Lib.nDigits m ≤ k + 1
  | 0, m, h => by rw [Lib.nDigits, dif_pos (by omega)]; omega
  | k + 1, m, h => by
    by_cases h10 : m < 10
    · rw [Lib.nDigits, dif_pos h10]; omega
    · rw [Lib.nDigits, dif_neg h10]
      have := nDigits_le k (m / 10) (by rw [Nat.pow_succ] at h; omega)
      omega
/-- The text of a mark. -/
def mtx (n : Nat) : ByteArray := ⟨(109 :: Lib.decDigits n).toArray⟩
theorem str_digitM : ∀ n : Nat, n < 10 → strOfNums [(wrap64 (48 + (n : Int))) % 256] = ⟨[UInt8.ofNat (48 + n)].toArray⟩ := by
  intro n hn
  rw [show (wrap64 (48 + (n : Int))) % 256 = ((48 + n : Nat) : Int) by unfold wrap64; omega]
  show (⟨#[UInt8.ofNat ((48 + n : Nat) : Int).toNat]⟩ : ByteArray) = _
  rw [Int.toNat_natCast]
theorem mark_loop : ∀ (d m : Nat) (l : List UInt8), m ≤ d → m ≠ 0 → m ≤ 4611686018427387904 → l.length + Lib.nDigits m ≤ 100 →
    Ev (fun k => laws_markText.l0 k (m : Int) ⟨l.toArray⟩) ⟨(109 :: (Lib.decDigits m ++ l)).toArray⟩ := by
  intro d
  induction d with
  | zero => intro m l h1 h2; omega
  | succ d ih =>
    intro m l hmd hm0 hm hl
    have hm10 : m % 10 < 10 := Nat.mod_lt _ (by omega)
    have hsz : (⟨l.toArray⟩ : ByteArray).size = l.length := size_mk l
    have hsz1 : (⟨[UInt8.ofNat (48 + m % 10)].toArray⟩ : ByteArray).size = 1 := rfl
    have t1 : Int.tmod (m : Int) 10 = ((m % 10 : Nat) : Int) := rfl
    have t2 : Int.tdiv (m : Int) 10 = ((m / 10 : Nat) : Int) := rfl
    refine Ev.step (fun k => laws_markText.l0.eq_2 _ _ k) ?_
    simp only [if_pos (show (m : Int) > 0 by omega), Option.bind_some, t1, t2, str_digitM _ hm10, hsz, hsz1, if_pos (show 1 + l.length ≤ 9223372036854775807 by omega)]
    rw [wrap_id (x := ((m / 10 : Nat) : Int)) (by omega) (by omega), str_app]
    by_cases h10 : m < 10
    · rw [show m / 10 = 0 by omega]
      refine Ev.step (fun k => laws_markText.l0.eq_2 _ _ k) ?_
      have hs2 : (⟨([UInt8.ofNat (48 + m % 10)] ++ l).toArray⟩ : ByteArray).size = l.length + 1 := by rw [size_mk]; simp
      simp only [if_neg (show ¬ ((0 : Nat) : Int) > 0 by omega), hs2, if_pos (show 1 + (l.length + 1) ≤ 9223372036854775807 by omega)]
      have ed : Lib.decDigits m = [UInt8.ofNat (48 + m % 10)] := by rw [Lib.decDigits, dif_pos h10, Nat.mod_eq_of_lt h10]
      rw [ed, show (⟨#[109]⟩ : ByteArray) = ⟨[(109 : UInt8)].toArray⟩ from rfl, str_app]
      exact Ev.now _
    · have ed : Lib.decDigits m = Lib.decDigits (m / 10) ++ [UInt8.ofNat (48 + m % 10)] := by rw [Lib.decDigits, dif_neg h10]
      have en : Lib.nDigits m = Lib.nDigits (m / 10) + 1 := by rw [Lib.nDigits, dif_neg h10]
      rw [ed, List.append_assoc]
      exact ih (m / 10) _ (by omega) (by omega) (by omega) (by simp only [List.length_append, List.length_cons, List.length_nil]; omega)
theorem mark_text (m : Nat) (h0 : m ≠ 0) (h : m ≤ 4611686018427387904) : Ev (fun k => laws_markText.f k (m : Int)) (mtx m) := by
  unfold laws_markText.f
  simp only [if_neg (show ¬ (m : Int) ≤ 0 by omega)]
  have := nDigits_le 19 m (by have : (10 : Nat) ^ (19 + 1) = 100000000000000000000 := by decide
                              omega)
  have hb := mark_loop m m [] (Nat.le_refl _) h0 h (by simp only [List.length_nil]; omega)
  rw [List.append_nil] at hb
  exact hb
theorem eq_strs_loop (l : List ByteArray) (hl : l.length ≤ 1000) : ∀ (d i : Nat), i + d = l.length → Ev (fun k => laws_eqStringS.l0 k l l (i : Int)) true := by
  intro d
  induction d with
  | zero =>
    intro i hi
    refine Ev.step (fun k => laws_eqStringS.l0.eq_2 _ _ _ k) ?_
    simp only [if_neg (show ¬ (i : Int) < (l.length : Int) by omega)]
    exact Ev.now _
  | succ d ih =>
    intro i hi
    refine Ev.step (fun k => laws_eqStringS.l0.eq_2 _ _ _ k) ?_
    simp only [if_pos (show (i : Int) < (l.length : Int) by omega), if_pos (show (0 : Int) ≤ (i : Int) by omega), if_true, wrap_succ i (by omega)]
    exact ih (i + 1) (by omega)
theorem eq_strs (l : List ByteArray) (hl : l.length ≤ 1000) : Ev (fun k => laws_eqStringS.f k l l) true := by
  unfold laws_eqStringS.f
  simp only [if_true]
  exact eq_strs_loop l hl l.length 0 (by omega)
def markL (n : Nat) : List ByteArray := (List.range n).map fun j : Nat => mtx (1 + j)
theorem markL_len (n : Nat) : (markL n).length = n := by simp [markL]
theorem mark_strs_loop (n : Nat) (hn : n ≤ 1000) : ∀ (d i : Nat) (x : List ByteArray), i + d = n → x.length = n → x.take i = (markL n).take i →
    Ev (fun k => laws_markStringS.l0 k x ((1 + i : Nat) : Int) (i : Int)) (((1 + n : Nat) : Int), markL n) := by
  intro d
  induction d with
  | zero =>
    intro i x hi hx ht
    refine Ev.step (fun k => laws_markStringS.l0.eq_2 _ _ _ k) ?_
    simp only [if_neg (show ¬ (i : Int) < (x.length : Int) by omega)]
    rw [List.take_of_length_le (by omega), List.take_of_length_le (l := markL n) (by rw [markL_len]; omega)] at ht
    subst ht
    rw [show i = n by omega]
    exact Ev.now _
  | succ d ih =>
    intro i x hi hx ht
    refine Ev.step (fun k => laws_markStringS.l0.eq_2 _ _ _ k) ?_
    simp only [if_pos (show (i : Int) < (x.length : Int) by omega)]
    refine Ev.bind (mark_text (1 + i) (by omega) (by omega)) ?_
    simp only [if_pos (show (0 : Int) ≤ (i : Int) by omega), Int.toNat_natCast, wrap_succ i (by omega), wrap_succ (1 + i) (by omega)]
    refine ih (i + 1) (x.set i (mtx (1 + i))) (by omega) (by simp; omega) ?_
    have h2 := set_take (markL n) x i (by rw [markL_len]; omega) (by rw [markL_len]; omega) ht
    have h3 : (markL n)[i]'(by rw [markL_len]; omega) = mtx (1 + i) := by simp [markL]
    rw [h3] at h2
    exact h2
theorem mark_strs (l : List ByteArray) (hl : l.length ≤ 1000) : Ev (fun k => laws_markStringS.f k l 1) (((1 + l.length : Nat) : Int), markL l.length) := by
  unfold laws_markStringS.f
  exact mark_strs_loop l.length hl l.length 0 l (by omega) rfl (by simp)
theorem held_strs_loop (n : Nat) (hn : n ≤ 1000) : ∀ (d i : Nat), i + d = n → Ev (fun k => laws_heldStringS.l0 k (markL n) ((1 + i : Nat) : Int) (i : Int)) ((1 + n : Nat) : Int) := by
  intro d
  induction d with
  | zero =>
    intro i hi
    refine Ev.step (fun k => laws_heldStringS.l0.eq_2 _ _ _ k) ?_
    simp only [if_neg (show ¬ (i : Int) < ((markL n).length : Int) by rw [markL_len]; omega)]
    rw [show i = n by omega]
    exact Ev.now _
  | succ d ih =>
    intro i hi
    have h3 : rdOf ByteArray.empty (markL n) (i : Int) = mtx (1 + i) := by
      rw [rdOf_lt _ i (by rw [markL_len]; omega)]
      simp [markL]
    refine Ev.step (fun k => laws_heldStringS.l0.eq_2 _ _ _ k) ?_
    simp only [if_pos (show (i : Int) < ((markL n).length : Int) by rw [markL_len]; omega), if_pos (show (0 : Int) ≤ (i : Int) by omega)]
    refine Ev.bind (mark_text (1 + i) (by omega) (by omega)) ?_
    simp only [h3, if_true, wrap_succ i (by omega), wrap_succ (1 + i) (by omega)]
    exact ih (i + 1) (by omega)
theorem held_strs (n : Nat) (hn : n ≤ 1000) : Ev (fun k => laws_heldStringS.f k (markL n) 1) ((1 + n : Nat) : Int) := by
  unfold laws_heldStringS.f
  exact held_strs_loop n hn n 0 (by omega)
theorem splM_len (l : List UInt8) : (splM l).1.length ≤ 24 := by
  unfold splM fin2
  split
  · simp
  · split
    · split
      · simp
      · show ((flds l []).map mkB).length ≤ 24
        omega
    · simp
theorem FnExactSplitFields : laws_FnExactSplitFields.Pure := by
  intro a ha
  refine Ev.rounds ?_
  unfold laws_FnExactSplitFields.f
  by_cases hb : (a.size : Int) > 1048576
  · simp only [if_pos hb]
    exact Ev.now _
  simp only [if_neg hb]
  have hl := splM_len a.data.toList
  refine Ev.bind (spec_split a) ?_
  refine Ev.bind (impl_split a) ?_
  refine Ev.bind (eq_strs _ (by omega)) ?_
  simp only [if_true, bne_self_eq_false]
  refine Ev.step (fun k => laws_FnExactSplitFields.j0.eq_2 _ _ _ _ _ k) ?_
  simp only [Bool.false_eq_true, if_false]
  refine Ev.bind (mark_strs _ (by omega)) ?_
  refine Ev.bind (held_strs _ (by omega)) ?_
  simp only [if_neg (show ¬ ((1 + (splM a.data.toList).1.length : Nat) : Int) < 0 by omega), if_true]
  refine Ev.bind (impl_split a) ?_
  refine Ev.bind (eq_strs _ (by omega)) ?_
  simp only [if_true, bne_self_eq_false]
  refine Ev.step (fun k => laws_FnExactSplitFields.j1.eq_2 _ _ _ k) ?_
  simp only [Bool.false_eq_true, if_false]
  refine Ev.bind (held_strs _ (by omega)) ?_
  simp only [if_neg (show ¬ ((1 + (splM a.data.toList).1.length : Nat) : Int) < 0 by omega), if_true]
  exact Ev.now _

end Go.Proofs.YtmhnnmjjebolpaaDoor.Pure

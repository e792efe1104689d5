/- A slice of structs of two one-cell fields that comes in, read element by element, as the printed contracts ask for it. For the rows of laws over such slices.
   Conditions: each field takes one cell. -/
import Derived.Deep.Slices
import Derived.Deep.Fields
import Derived.ChangeSame
import Derived.Lib.SmallJoins
import Derived.Test.YtmhnnmjjebolpaaWWords
namespace Go.Proofs.Ytmhnnmjjebolpaa.RowSlices
open Go.Joins Go.ChangeShapes Go.WideShapes Go.RowKit Go.Deep
open Go.Proofs.YtmhnnmjjebolpaaW.PrintWords
section
variable {H : Type} {enc : TypeId × Value → H} {P : Program} {w : World} {base : Nat} {spare : Nat → Bool} {held : Bool}
theorem open_row2 {t e : TypeId} {f0 f1 : Field} {a : Option Addr} {len cap : Nat} {d : DataW H} {ps : List MemPlace} (ht : P.underlying t = some (.slice e)) (he : P.underlying e = some (.struct #[f0, f1]))
    (hone : oneCellFields P #[f0, f1] = true) (hC : P.cellsOf e = 2) (h : DataW.Trod enc P w base spare held t (.slice a len cap) d ps) :
    len ≤ cap ∧ cap ≤ maxLen ∧ ∀ i, i < len → ∃ ad, a = some ad ∧ ∃ (v0 v1 : Value) (n : Nat) (y0 y1 : DataW H × List MemPlace), w.cell? (ad.add (i * 2)) = some v0 ∧ w.cell? (ad.add (i * 2 + 1)) = some v1 ∧
      DataW.trod enc P w base spare held n f0.type [v0] = some y0 ∧ DataW.trod enc P w base spare held n f1.type [v1] = some y1 := by
  obtain ⟨fuel, hf⟩ := h
  rcases open_slice ht hf with ⟨hcs, _⟩ | ⟨x, l, c, m, n, D, Pl, hcs, _, hl, hm, hmm, _, hi⟩
  · simp [Value.cells] at hcs
    obtain ⟨rfl, rfl, rfl⟩ := hcs
    exact ⟨Nat.le_refl _, Nat.zero_le _, fun i hi => by omega⟩
  · simp [Value.cells] at hcs
    obtain ⟨rfl, rfl, rfl⟩ := hcs
    refine ⟨hl, hm, fun i hlt => ⟨x, rfl, ?_⟩⟩
    have him : i < m := by
      rw [hmm]
      split <;> omega
    obtain ⟨cs', hc, ht'⟩ := hi i him
    rw [hC] at hc
    obtain ⟨_, hcl, hat⟩ := World.cells?_some hc
    obtain ⟨y0, y1, n', _, _, h0, h1⟩ := trod_struct2 he ht'
    obtain ⟨o0, k0⟩ := hone_of hone 0 f0 rfl
    obtain ⟨o1, k1⟩ := hone_of hone 1 f1 rfl
    have c0 := hat 0 (by omega)
    have c1 := hat 1 (by omega)
    match cs', hcl with
    | [u0, u1], _ =>
      rw [o0, k0] at h0
      rw [o1, k1] at h1
      refine ⟨u0, u1, n', y0, y1, ?_, ?_, by simpa using h0, by simpa using h1⟩
      · rw [show i * 2 = i * 2 + 0 from rfl, ← Go.Deep.add_add, c0]
        rfl
      · rw [← Go.Deep.add_add, c1]
        rfl
end
theorem rows_of {α : Type} {d : Kd α} {w : World} {a : Option Addr} {len : Nat} (hlen : len ≤ 9223372036854775807) (Q : α → Prop)
    (h : ∀ i, i < len → ∃ ad, a = some ad ∧ ∃ (x : α) (c : List Value), c.length = d.sz ∧ d.K w x c ∧ Q x ∧ ∀ (j : Nat) (u : Value), c[j]? = some u → w.cell? (ad.add (i * d.sz + j)) = some u) :
    ∃ l : List α, len = l.length ∧ Kd.C d w a l.length l ∧ ∀ x ∈ l, Q x := by
  by_cases h0 : len = 0
  · subst h0
    exact ⟨[], rfl, ⟨rfl, by simp, fun hn => by simp at hn⟩, fun x hx => by simp at hx⟩
  · obtain ⟨ad, rfl, -⟩ := h 0 (by omega)
    have g : ∀ i : Fin len, ∃ (x : α), Q x ∧ ∃ c : List Value, c.length = d.sz ∧ d.K w x c ∧ ∀ (j : Nat) (u : Value), c[j]? = some u → w.cell? (ad.add (i.1 * d.sz + j)) = some u := by
      intro i
      obtain ⟨ad', e, x, c, h1, h2, h3, h4⟩ := h i.1 i.2
      have e' : ad' = ad := (Option.some.inj e).symm
      subst e'
      exact ⟨x, h3, c, h1, h2, h4⟩
    refine ⟨List.ofFn (fun i : Fin len => Classical.choose (g i)), by simp, ⟨rfl, by simpa using hlen, fun _ => ⟨ad, rfl, fun j p hj => ?_⟩⟩, fun x hx => ?_⟩
    · rw [List.getElem?_ofFn] at hj
      split at hj
      · rename_i hlt
        obtain rfl := Option.some.inj hj
        exact (Classical.choose_spec (g ⟨j, hlt⟩)).2
      · cases hj
    · obtain ⟨i, rfl⟩ := (List.mem_ofFn).1 hx
      exact (Classical.choose_spec (g i)).1
end Go.Proofs.Ytmhnnmjjebolpaa.RowSlices

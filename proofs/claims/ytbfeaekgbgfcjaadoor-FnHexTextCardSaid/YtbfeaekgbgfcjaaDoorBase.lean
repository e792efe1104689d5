/- What a law over listed tables carries from call to call: the table that strconv.Itoa reads, and the cell that strings.Split reads. No condition beyond what each theorem names. -/
import Derived.Test.YtbfeaekgbgfcjaaDoorShelf
import Derived.Lib.SmallJoins
import Derived.Lib.LaidTab
import Derived.Lib.ItoaMem
namespace Go.Proofs.YtbfeaekgbgfcjaaDoor.Base
open Go.RowKit
/-- The table that strconv.Itoa reads is laid. -/
def Tab (w : World) : Prop := Lib.TabIs Tryd.prog w "internal/strconv.uint64pow10" .u64 Lib.pow10Tab
theorem Tab.on {w w' : World} (h : Tab w) (hb : Below w.heap.size w w') : Tab w' := Go.Joins.tab_stays (g := 0) (by kernel_rfl) h hb (Nat.le_refl _)
/-- The variable internal/bytealg.MaxLen holds some int. -/
def Mx (w : World) : Prop := ∃ m, w.cell? ⟨1, 0, none⟩ = some (.int .i64 m)
theorem Mx.on {w w' : World} (h : Mx w) (hb : Below w.heap.size w w') : Mx w' := by
  obtain ⟨m, hm⟩ := h
  exact ⟨m, (hb.cell (p := ⟨1, 0, none⟩) (World.block_lt_of_cell? _ _ hm)).trans hm⟩
end Go.Proofs.YtbfeaekgbgfcjaaDoor.Base

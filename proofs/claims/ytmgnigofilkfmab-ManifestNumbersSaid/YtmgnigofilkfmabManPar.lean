/-
  A manifest's cells are loaded; small laws of truth values for regions that draw their order. Plain theorems.
-/
import Derived.Test.YtmgnigofilkfmabSame9b
import Derived.Test.YtmgnigofilkfmabBools
namespace Go.Proofs.Ytmgnigofilkfmab
set_option maxRecDepth 100000
open Go Go.RowKit
theorem load_man {w : World} {b : Nat} {v0 v1 v2 v3 : Value} (hB : Blk w b 27 #[v0, v1, v2, v3]) :
    (Instr.loadAt 27 (.pointer (some ⟨b, 0, none⟩))).run Try.prog w = .ok (.agg #[v0, v1, v2, v3]) w := by
  have y0 := hB.cell (i := 0) rfl
  have y1 := hB.cell (i := 1) rfl
  have y2 := hB.cell (i := 2) rfl
  have y3 := hB.cell (i := 3) rfl
  go_simp
end Go.Proofs.Ytmgnigofilkfmab

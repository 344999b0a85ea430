/-
  A manifest's cells are loaded; small laws of truth values for regions that draw their order. Plain theorems.
-/
import Derived.Test.YtmgnigofilkfmabSame9b
namespace Go.Proofs.Ytmgnigofilkfmab
set_option maxRecDepth 100000
open Go Go.RowKit
theorem load_man {w : World} {b : Nat} {v0 v1 v2 v3 : Value} (hB : Blk w b 27 #[v0, v1, v2, v3]) :
    (Instr.loadAt 27 (.pointer (some ⟨b, 0, none⟩))).run Try.prog w = .ok (.agg #[v0, v1, v2, v3]) w := by
  have y0 := hB.cell (i := 0) rfl
  have y1 := hB.cell (i := 1) rfl
  have y2 := hB.cell (i := 2) rfl
  have y3 := hB.cell (i := 3) rfl
  go_simp
theorem bin_eqb {w : World} (a b : Bool) : (binOp .eql 4 (.bool a) (.bool b)).run Try.prog w = .ok (.bool (a == b)) w := run_eql_bool w _ a b Try.underlying4
theorem bin_neb {w : World} (a b : Bool) : (binOp .neq 4 (.bool a) (.bool b)).run Try.prog w = .ok (.bool (!(a == b))) w := run_neq_bool w _ a b Try.underlying4
end Go.Proofs.Ytmgnigofilkfmab

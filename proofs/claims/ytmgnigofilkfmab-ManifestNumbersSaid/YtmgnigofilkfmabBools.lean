/-
  Truth values compared. Plain theorems.
-/
import Derived.Test.YtmgnigofilkfmabMore
namespace Go.Proofs.Ytmgnigofilkfmab
open Go Go.RowKit
theorem bin_eqb {w : World} (a b : Bool) : (binOp .eql 4 (.bool a) (.bool b)).run Try.prog w = .ok (.bool (a == b)) w := run_eql_bool w _ a b Try.underlying4
theorem bin_neb {w : World} (a b : Bool) : (binOp .neq 4 (.bool a) (.bool b)).run Try.prog w = .ok (.bool (!(a == b))) w := run_neq_bool w _ a b Try.underlying4
end Go.Proofs.Ytmgnigofilkfmab

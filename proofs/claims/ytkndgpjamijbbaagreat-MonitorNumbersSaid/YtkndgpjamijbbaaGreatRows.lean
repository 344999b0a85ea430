/-
  No cell of these rows narrows 'for every input' (looked for: loops, veiled, ifaces, maps, wideKeys, modest, calm, conditions, laid).
  DERIVED. THE GIVEN ROWS OF THIS SEAT. 2 by the template 'for every input the law returns true; each argument reads behind the call as it read before'; 0 by the template 'total and deterministic' (their statements: YtkndgpjamijbbaaGreatTotals.lean).
  GIVEN WITH THE SEED: the statements are not yours to turn. If you find one false, say at which input.
  Laid BY PROGRAM, IN A SANDBOX (cutbox-rows.mjs): the forced cells as the released guide's own fill.sh prints them over the translation 21941929aade1524… (all of the seat's roots in one cut). By AI agents, Wed Nov 11 2026. No macro, syntax, notation, axiom, sorry.
-/
import Derived.Test.YtkndgpjamijbbaaGreatChecked
import GoSem.Claim
import GoSem.ClaimJoined
import GoSem.ClaimMapViews
import Derived.JoinedTies
import Derived.KernelRfl
namespace Go.Proofs.YtkndgpjamijbbaaGreat
/- THE CELL 'sum', in the pinned program and in every row, IS THE sha256 OF THE DUMP (.gsa) THAT YtkndgpjamijbbaaGreatProg.lean LOADS. Nothing in Lean hashes anything: it is a label: what it is worth is what the hold of that sum in a sandbox is worth. -/
noncomputable def Tryz.pinned : Pinned := { name := "ytkndgpjamijbbaagreat", sum := "21941929aade15243b6ed66a8edb31d3f298c519a5c1af72b4408d088b131e36", checked := Tryz.checked }
namespace Rows
def none {H : Type} : Left H := { results := [], args := [] }

/-- 'broadsheetlaw22.MonitorNumbers': WHATEVER THE INPUT: true; the input reads as it did. -/
def monitorNumbersSpec : ChangeSpec := { name := "monitorNumbers", fn := fun _ => fun
  | [] => { results := [.lit (.bool true)], args := [] }
  | _ => none }
def monitorNumbersRow : OpenClaim := { program := "ytkndgpjamijbbaagreat", sum := "21941929aade15243b6ed66a8edb31d3f298c519a5c1af72b4408d088b131e36", func := "broadsheet/broadsheetlaw22.MonitorNumbers", spec := "monitorNumbers", unfollowed := true, recurses := true, apart := false }
def MonitorNumbersSaid : Prop := monitorNumbersRow.holds Tryz.pinned (OpenSpec.ofChange monitorNumbersSpec)

/-- ITS FALSE NEIGHBOUR: 'it returns false'. Refute it at one input. -/
def monitorNumbersWrong : ChangeSpec := { name := "monitorNumbers", fn := fun _ => fun
  | [] => { results := [.lit (.bool false)], args := [] }
  | _ => none }
def MonitorNumbersWrongFalsely : Prop := monitorNumbersRow.holds Tryz.pinned (OpenSpec.ofChange monitorNumbersWrong)

/-- 'broadsheetlaw22.MonitorPlays': WHATEVER THE INPUT: true; the input reads as it did. -/
def monitorPlaysSpec : ChangeSpec := { name := "monitorPlays", fn := fun _ => fun
  | [d] => { results := [.lit (.bool true)], args := [d] }
  | _ => none }
def monitorPlaysRow : OpenClaim := { program := "ytkndgpjamijbbaagreat", sum := "21941929aade15243b6ed66a8edb31d3f298c519a5c1af72b4408d088b131e36", func := "broadsheet/broadsheetlaw22.MonitorPlays", spec := "monitorPlays", unfollowed := true, recurses := true, apart := false }
def MonitorPlaysSaid : Prop := monitorPlaysRow.holds Tryz.pinned (OpenSpec.ofChange monitorPlaysSpec)

/-- ITS FALSE NEIGHBOUR: 'it returns false'. Refute it at one input. -/
def monitorPlaysWrong : ChangeSpec := { name := "monitorPlays", fn := fun _ => fun
  | [d] => { results := [.lit (.bool false)], args := [d] }
  | _ => none }
def MonitorPlaysWrongFalsely : Prop := monitorPlaysRow.holds Tryz.pinned (OpenSpec.ofChange monitorPlaysWrong)

/- THE SECOND FORM. 'bulk': how many values and letters a reading holds, each counted each time it is reached (what is shared counts as often as it is met; a slice's spare places count too). A statement '..UptoSaid' is the law's where the arguments, and the package variables that the reading takes, are together of bulk at most 1048576: NARROWER than '..Said'. Prove '..Said' where nothing that the law and all that it calls make is longer than what came in: it says more and counts as full. Else prove '..UptoSaid'. A law counts once. -/
mutual
def uptoBulk {H : Type} : DataW H → Nat
  | .lit (.string bytes) => bytes.length + 1
  | .lit _ => 1
  | .nil => 1
  | .ptr d => uptoBulk d + 1
  | .slice elems spare => uptoBulkAll elems + uptoBulkAll spare + 1
  | .agg parts => uptoBulkAll parts + 1
  | .iface _ d => uptoBulk d + 1
  | .map entries => uptoBulkEntries entries + 1
  | .held _ => 1
def uptoBulkAll {H : Type} : List (DataW H) → Nat
  | [] => 0
  | d :: r => uptoBulk d + uptoBulkAll r
def uptoBulkEntries {H : Type} : List (Lit × DataW H) → Nat
  | [] => 0
  | x :: r => uptoBulkEntry x + uptoBulkEntries r
def uptoBulkEntry {H : Type} : Lit × DataW H → Nat
  | (.string bytes, d) => bytes.length + uptoBulk d + 1
  | (_, d) => uptoBulk d + 1
 end
def uptoSmall : (H : Type) → List (DataW H) → Bool := fun _ ds => decide (uptoBulkAll ds ≤ 1048576)
def OpenSpec.upto (s : _root_.Go.ChangeSpec) : _root_.Go.OpenSpec := { _root_.Go.OpenSpec.ofChange s with cond := some uptoSmall }

/-- 'broadsheetlaw22.MonitorNumbers', WHERE WHAT IT READS IS OF BULK AT MOST 1048576: true; the input reads as it did. -/
def monitorNumbersUptoRow : OpenClaim := { program := "ytkndgpjamijbbaagreat", sum := "21941929aade15243b6ed66a8edb31d3f298c519a5c1af72b4408d088b131e36", func := "broadsheet/broadsheetlaw22.MonitorNumbers", spec := "monitorNumbers", unfollowed := true, recurses := true, apart := false, narrowed := true }
def MonitorNumbersUptoSaid : Prop := monitorNumbersUptoRow.holds Tryz.pinned (OpenSpec.upto monitorNumbersSpec)

/-- 'broadsheetlaw22.MonitorPlays', WHERE WHAT IT READS IS OF BULK AT MOST 1048576: true; the input reads as it did. -/
def monitorPlaysUptoRow : OpenClaim := { program := "ytkndgpjamijbbaagreat", sum := "21941929aade15243b6ed66a8edb31d3f298c519a5c1af72b4408d088b131e36", func := "broadsheet/broadsheetlaw22.MonitorPlays", spec := "monitorPlays", unfollowed := true, recurses := true, apart := false, narrowed := true }
def MonitorPlaysUptoSaid : Prop := monitorPlaysUptoRow.holds Tryz.pinned (OpenSpec.upto monitorPlaysSpec)

end Rows
end Go.Proofs.YtkndgpjamijbbaaGreat

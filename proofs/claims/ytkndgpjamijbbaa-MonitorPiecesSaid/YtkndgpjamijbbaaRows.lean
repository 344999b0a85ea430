/-
  No cell of these rows narrows 'for every input' (looked for: loops, veiled, ifaces, maps, wideKeys, modest, calm, conditions, laid).
  DERIVED. THE GIVEN ROWS OF THIS SEAT. 9 by the template 'for every input the law returns true; each argument reads behind the call as it read before'; 0 by the template 'total and deterministic' (their statements: YtkndgpjamijbbaaTotals.lean).
  GIVEN WITH THE SEED: the statements are not yours to turn. If you find one false, say at which input.
  Laid BY PROGRAM, IN A SANDBOX (cutbox-rows.mjs): the forced cells as the released guide's own fill.sh prints them over the translation acb8e4b320bcf13a… (all of the seat's roots in one cut). By AI agents, Wed Nov 11 2026. No macro, syntax, notation, axiom, sorry.
-/
import Derived.Test.YtkndgpjamijbbaaChecked
import GoSem.Claim
import GoSem.ClaimJoined
import GoSem.ClaimMapViews
import Derived.JoinedTies
import Derived.KernelRfl
namespace Go.Proofs.Ytkndgpjamijbbaa
/- THE CELL 'sum', in the pinned program and in every row, IS THE sha256 OF THE DUMP (.gsa) THAT YtkndgpjamijbbaaProg.lean LOADS. Nothing in Lean hashes anything: it is a label: what it is worth is what the hold of that sum in a sandbox is worth. -/
noncomputable def Try.pinned : Pinned := { name := "ytkndgpjamijbbaa", sum := "acb8e4b320bcf13a8976acf5f6787e6d54b74b6a2682d0fd4eec2fb08112f7b6", checked := Try.checked }
namespace Rows
def none {H : Type} : Left H := { results := [], args := [] }

/-- 'broadsheetlaw26.ExtractNumbers': WHATEVER THE INPUT: true; the input reads as it did. -/
def extractNumbersSpec : ChangeSpec := { name := "extractNumbers", fn := fun _ => fun
  | [] => { results := [.lit (.bool true)], args := [] }
  | _ => none }
def extractNumbersRow : OpenClaim := { program := "ytkndgpjamijbbaa", sum := "acb8e4b320bcf13a8976acf5f6787e6d54b74b6a2682d0fd4eec2fb08112f7b6", func := "broadsheet/broadsheetlaw26.ExtractNumbers", spec := "extractNumbers", unfollowed := true, recurses := true, apart := false }
def ExtractNumbersSaid : Prop := extractNumbersRow.holds Try.pinned (OpenSpec.ofChange extractNumbersSpec)

/-- ITS FALSE NEIGHBOUR: 'it returns false'. Refute it at one input. -/
def extractNumbersWrong : ChangeSpec := { name := "extractNumbers", fn := fun _ => fun
  | [] => { results := [.lit (.bool false)], args := [] }
  | _ => none }
def ExtractNumbersWrongFalsely : Prop := extractNumbersRow.holds Try.pinned (OpenSpec.ofChange extractNumbersWrong)

/-- 'broadsheetlaw26.ExtractPairs': WHATEVER THE INPUT: true; the input reads as it did. -/
def extractPairsSpec : ChangeSpec := { name := "extractPairs", fn := fun _ => fun
  | [d] => { results := [.lit (.bool true)], args := [d] }
  | _ => none }
def extractPairsRow : OpenClaim := { program := "ytkndgpjamijbbaa", sum := "acb8e4b320bcf13a8976acf5f6787e6d54b74b6a2682d0fd4eec2fb08112f7b6", func := "broadsheet/broadsheetlaw26.ExtractPairs", spec := "extractPairs", unfollowed := true, recurses := true, apart := false }
def ExtractPairsSaid : Prop := extractPairsRow.holds Try.pinned (OpenSpec.ofChange extractPairsSpec)

/-- ITS FALSE NEIGHBOUR: 'it returns false'. Refute it at one input. -/
def extractPairsWrong : ChangeSpec := { name := "extractPairs", fn := fun _ => fun
  | [d] => { results := [.lit (.bool false)], args := [d] }
  | _ => none }
def ExtractPairsWrongFalsely : Prop := extractPairsRow.holds Try.pinned (OpenSpec.ofChange extractPairsWrong)

/-- 'broadsheetlaw26.ExtractTrees': WHATEVER THE INPUT: true; the input reads as it did. -/
def extractTreesSpec : ChangeSpec := { name := "extractTrees", fn := fun _ => fun
  | [d1, d2, d3] => { results := [.lit (.bool true)], args := [d1, d2, d3] }
  | _ => none }
def extractTreesRow : OpenClaim := { program := "ytkndgpjamijbbaa", sum := "acb8e4b320bcf13a8976acf5f6787e6d54b74b6a2682d0fd4eec2fb08112f7b6", func := "broadsheet/broadsheetlaw26.ExtractTrees", spec := "extractTrees", unfollowed := true, recurses := true, apart := false }
def ExtractTreesSaid : Prop := extractTreesRow.holds Try.pinned (OpenSpec.ofChange extractTreesSpec)

/-- ITS FALSE NEIGHBOUR: 'it returns false'. Refute it at one input. -/
def extractTreesWrong : ChangeSpec := { name := "extractTrees", fn := fun _ => fun
  | [d1, d2, d3] => { results := [.lit (.bool false)], args := [d1, d2, d3] }
  | _ => none }
def ExtractTreesWrongFalsely : Prop := extractTreesRow.holds Try.pinned (OpenSpec.ofChange extractTreesWrong)

/-- 'broadsheetlaw26.ExtractForged': WHATEVER THE INPUT: true; the input reads as it did. -/
def extractForgedSpec : ChangeSpec := { name := "extractForged", fn := fun _ => fun
  | [d1, d2, d3, d4, d5, d6, d7] => { results := [.lit (.bool true)], args := [d1, d2, d3, d4, d5, d6, d7] }
  | _ => none }
def extractForgedRow : OpenClaim := { program := "ytkndgpjamijbbaa", sum := "acb8e4b320bcf13a8976acf5f6787e6d54b74b6a2682d0fd4eec2fb08112f7b6", func := "broadsheet/broadsheetlaw26.ExtractForged", spec := "extractForged", unfollowed := true, recurses := true, apart := false }
def ExtractForgedSaid : Prop := extractForgedRow.holds Try.pinned (OpenSpec.ofChange extractForgedSpec)

/-- ITS FALSE NEIGHBOUR: 'it returns false'. Refute it at one input. -/
def extractForgedWrong : ChangeSpec := { name := "extractForged", fn := fun _ => fun
  | [d1, d2, d3, d4, d5, d6, d7] => { results := [.lit (.bool false)], args := [d1, d2, d3, d4, d5, d6, d7] }
  | _ => none }
def ExtractForgedWrongFalsely : Prop := extractForgedRow.holds Try.pinned (OpenSpec.ofChange extractForgedWrong)

/-- 'broadsheetlaw26.ExtractPrefixes': WHATEVER THE INPUT: true; the input reads as it did. -/
def extractPrefixesSpec : ChangeSpec := { name := "extractPrefixes", fn := fun _ => fun
  | [d1, d2, d3, d4] => { results := [.lit (.bool true)], args := [d1, d2, d3, d4] }
  | _ => none }
def extractPrefixesRow : OpenClaim := { program := "ytkndgpjamijbbaa", sum := "acb8e4b320bcf13a8976acf5f6787e6d54b74b6a2682d0fd4eec2fb08112f7b6", func := "broadsheet/broadsheetlaw26.ExtractPrefixes", spec := "extractPrefixes", unfollowed := true, recurses := true, apart := false }
def ExtractPrefixesSaid : Prop := extractPrefixesRow.holds Try.pinned (OpenSpec.ofChange extractPrefixesSpec)

/-- ITS FALSE NEIGHBOUR: 'it returns false'. Refute it at one input. -/
def extractPrefixesWrong : ChangeSpec := { name := "extractPrefixes", fn := fun _ => fun
  | [d1, d2, d3, d4] => { results := [.lit (.bool false)], args := [d1, d2, d3, d4] }
  | _ => none }
def ExtractPrefixesWrongFalsely : Prop := extractPrefixesRow.holds Try.pinned (OpenSpec.ofChange extractPrefixesWrong)

/-- 'broadsheetlaw26.ExtractCommon': WHATEVER THE INPUT: true; the input reads as it did. -/
def extractCommonSpec : ChangeSpec := { name := "extractCommon", fn := fun _ => fun
  | [d1, d2, d3, d4, d5, d6, d7] => { results := [.lit (.bool true)], args := [d1, d2, d3, d4, d5, d6, d7] }
  | _ => none }
def extractCommonRow : OpenClaim := { program := "ytkndgpjamijbbaa", sum := "acb8e4b320bcf13a8976acf5f6787e6d54b74b6a2682d0fd4eec2fb08112f7b6", func := "broadsheet/broadsheetlaw26.ExtractCommon", spec := "extractCommon", unfollowed := true, recurses := true, apart := false }
def ExtractCommonSaid : Prop := extractCommonRow.holds Try.pinned (OpenSpec.ofChange extractCommonSpec)

/-- ITS FALSE NEIGHBOUR: 'it returns false'. Refute it at one input. -/
def extractCommonWrong : ChangeSpec := { name := "extractCommon", fn := fun _ => fun
  | [d1, d2, d3, d4, d5, d6, d7] => { results := [.lit (.bool false)], args := [d1, d2, d3, d4, d5, d6, d7] }
  | _ => none }
def ExtractCommonWrongFalsely : Prop := extractCommonRow.holds Try.pinned (OpenSpec.ofChange extractCommonWrong)

/-- 'broadsheetlaw22.MonitorForks': WHATEVER THE INPUT: true; the input reads as it did. -/
def monitorForksSpec : ChangeSpec := { name := "monitorForks", fn := fun _ => fun
  | [d1, d2, d3] => { results := [.lit (.bool true)], args := [d1, d2, d3] }
  | _ => none }
def monitorForksRow : OpenClaim := { program := "ytkndgpjamijbbaa", sum := "acb8e4b320bcf13a8976acf5f6787e6d54b74b6a2682d0fd4eec2fb08112f7b6", func := "broadsheet/broadsheetlaw22.MonitorForks", spec := "monitorForks", unfollowed := true, recurses := true, apart := false }
def MonitorForksSaid : Prop := monitorForksRow.holds Try.pinned (OpenSpec.ofChange monitorForksSpec)

/-- ITS FALSE NEIGHBOUR: 'it returns false'. Refute it at one input. -/
def monitorForksWrong : ChangeSpec := { name := "monitorForks", fn := fun _ => fun
  | [d1, d2, d3] => { results := [.lit (.bool false)], args := [d1, d2, d3] }
  | _ => none }
def MonitorForksWrongFalsely : Prop := monitorForksRow.holds Try.pinned (OpenSpec.ofChange monitorForksWrong)

/-- 'broadsheetlaw22.MonitorPieces': WHATEVER THE INPUT: true; the input reads as it did. -/
def monitorPiecesSpec : ChangeSpec := { name := "monitorPieces", fn := fun _ => fun
  | [d1, d2] => { results := [.lit (.bool true)], args := [d1, d2] }
  | _ => none }
def monitorPiecesRow : OpenClaim := { program := "ytkndgpjamijbbaa", sum := "acb8e4b320bcf13a8976acf5f6787e6d54b74b6a2682d0fd4eec2fb08112f7b6", func := "broadsheet/broadsheetlaw22.MonitorPieces", spec := "monitorPieces", unfollowed := true, recurses := true, apart := false }
def MonitorPiecesSaid : Prop := monitorPiecesRow.holds Try.pinned (OpenSpec.ofChange monitorPiecesSpec)

/-- ITS FALSE NEIGHBOUR: 'it returns false'. Refute it at one input. -/
def monitorPiecesWrong : ChangeSpec := { name := "monitorPieces", fn := fun _ => fun
  | [d1, d2] => { results := [.lit (.bool false)], args := [d1, d2] }
  | _ => none }
def MonitorPiecesWrongFalsely : Prop := monitorPiecesRow.holds Try.pinned (OpenSpec.ofChange monitorPiecesWrong)

/-- 'broadsheetlaw22.MonitorRefused': WHATEVER THE INPUT: true; the input reads as it did. -/
def monitorRefusedSpec : ChangeSpec := { name := "monitorRefused", fn := fun _ => fun
  | [d1, d2, d3] => { results := [.lit (.bool true)], args := [d1, d2, d3] }
  | _ => none }
def monitorRefusedRow : OpenClaim := { program := "ytkndgpjamijbbaa", sum := "acb8e4b320bcf13a8976acf5f6787e6d54b74b6a2682d0fd4eec2fb08112f7b6", func := "broadsheet/broadsheetlaw22.MonitorRefused", spec := "monitorRefused", unfollowed := true, recurses := true, apart := false }
def MonitorRefusedSaid : Prop := monitorRefusedRow.holds Try.pinned (OpenSpec.ofChange monitorRefusedSpec)

/-- ITS FALSE NEIGHBOUR: 'it returns false'. Refute it at one input. -/
def monitorRefusedWrong : ChangeSpec := { name := "monitorRefused", fn := fun _ => fun
  | [d1, d2, d3] => { results := [.lit (.bool false)], args := [d1, d2, d3] }
  | _ => none }
def MonitorRefusedWrongFalsely : Prop := monitorRefusedRow.holds Try.pinned (OpenSpec.ofChange monitorRefusedWrong)

/- THE SECOND FORM. 'bulk': how many values and letters a reading holds, each counted each time it is reached (what is shared counts as often as it is met; a slice's spare places count too). A statement '..UptoSaid' is the law's where the arguments, and the package variables that the reading takes, are together of bulk at most 1048576: NARROWER than '..Said'. Prove '..Said' where nothing that the law and all that it calls make is longer than what came in: it says more and counts as full. Else prove '..UptoSaid'. A law counts once. -/
mutual
def uptoBulk {H : Type} : DataW H → Nat
  | .lit (.string bytes) => bytes.length + 1
  | .lit _ => 1
  | .nil => 1
  | .ptr d => uptoBulk d + 1
  | .slice elems spare => uptoBulkAll elems + uptoBulkAll spare + 1
  | .agg parts => uptoBulkAll parts + 1
  | .iface _ d => uptoBulk d + 1
  | .map entries => uptoBulkEntries entries + 1
  | .held _ => 1
def uptoBulkAll {H : Type} : List (DataW H) → Nat
  | [] => 0
  | d :: r => uptoBulk d + uptoBulkAll r
def uptoBulkEntries {H : Type} : List (Lit × DataW H) → Nat
  | [] => 0
  | x :: r => uptoBulkEntry x + uptoBulkEntries r
def uptoBulkEntry {H : Type} : Lit × DataW H → Nat
  | (.string bytes, d) => bytes.length + uptoBulk d + 1
  | (_, d) => uptoBulk d + 1
 end
def uptoSmall : (H : Type) → List (DataW H) → Bool := fun _ ds => decide (uptoBulkAll ds ≤ 1048576)
def OpenSpec.upto (s : _root_.Go.ChangeSpec) : _root_.Go.OpenSpec := { _root_.Go.OpenSpec.ofChange s with cond := some uptoSmall }

/-- 'broadsheetlaw26.ExtractNumbers', WHERE WHAT IT READS IS OF BULK AT MOST 1048576: true; the input reads as it did. -/
def extractNumbersUptoRow : OpenClaim := { program := "ytkndgpjamijbbaa", sum := "acb8e4b320bcf13a8976acf5f6787e6d54b74b6a2682d0fd4eec2fb08112f7b6", func := "broadsheet/broadsheetlaw26.ExtractNumbers", spec := "extractNumbers", unfollowed := true, recurses := true, apart := false, narrowed := true }
def ExtractNumbersUptoSaid : Prop := extractNumbersUptoRow.holds Try.pinned (OpenSpec.upto extractNumbersSpec)

/-- 'broadsheetlaw26.ExtractPairs', WHERE WHAT IT READS IS OF BULK AT MOST 1048576: true; the input reads as it did. -/
def extractPairsUptoRow : OpenClaim := { program := "ytkndgpjamijbbaa", sum := "acb8e4b320bcf13a8976acf5f6787e6d54b74b6a2682d0fd4eec2fb08112f7b6", func := "broadsheet/broadsheetlaw26.ExtractPairs", spec := "extractPairs", unfollowed := true, recurses := true, apart := false, narrowed := true }
def ExtractPairsUptoSaid : Prop := extractPairsUptoRow.holds Try.pinned (OpenSpec.upto extractPairsSpec)

/-- 'broadsheetlaw26.ExtractTrees', WHERE WHAT IT READS IS OF BULK AT MOST 1048576: true; the input reads as it did. -/
def extractTreesUptoRow : OpenClaim := { program := "ytkndgpjamijbbaa", sum := "acb8e4b320bcf13a8976acf5f6787e6d54b74b6a2682d0fd4eec2fb08112f7b6", func := "broadsheet/broadsheetlaw26.ExtractTrees", spec := "extractTrees", unfollowed := true, recurses := true, apart := false, narrowed := true }
def ExtractTreesUptoSaid : Prop := extractTreesUptoRow.holds Try.pinned (OpenSpec.upto extractTreesSpec)

/-- 'broadsheetlaw26.ExtractForged', WHERE WHAT IT READS IS OF BULK AT MOST 1048576: true; the input reads as it did. -/
def extractForgedUptoRow : OpenClaim := { program := "ytkndgpjamijbbaa", sum := "acb8e4b320bcf13a8976acf5f6787e6d54b74b6a2682d0fd4eec2fb08112f7b6", func := "broadsheet/broadsheetlaw26.ExtractForged", spec := "extractForged", unfollowed := true, recurses := true, apart := false, narrowed := true }
def ExtractForgedUptoSaid : Prop := extractForgedUptoRow.holds Try.pinned (OpenSpec.upto extractForgedSpec)

/-- 'broadsheetlaw26.ExtractPrefixes', WHERE WHAT IT READS IS OF BULK AT MOST 1048576: true; the input reads as it did. -/
def extractPrefixesUptoRow : OpenClaim := { program := "ytkndgpjamijbbaa", sum := "acb8e4b320bcf13a8976acf5f6787e6d54b74b6a2682d0fd4eec2fb08112f7b6", func := "broadsheet/broadsheetlaw26.ExtractPrefixes", spec := "extractPrefixes", unfollowed := true, recurses := true, apart := false, narrowed := true }
def ExtractPrefixesUptoSaid : Prop := extractPrefixesUptoRow.holds Try.pinned (OpenSpec.upto extractPrefixesSpec)

/-- 'broadsheetlaw26.ExtractCommon', WHERE WHAT IT READS IS OF BULK AT MOST 1048576: true; the input reads as it did. -/
def extractCommonUptoRow : OpenClaim := { program := "ytkndgpjamijbbaa", sum := "acb8e4b320bcf13a8976acf5f6787e6d54b74b6a2682d0fd4eec2fb08112f7b6", func := "broadsheet/broadsheetlaw26.ExtractCommon", spec := "extractCommon", unfollowed := true, recurses := true, apart := false, narrowed := true }
def ExtractCommonUptoSaid : Prop := extractCommonUptoRow.holds Try.pinned (OpenSpec.upto extractCommonSpec)

/-- 'broadsheetlaw22.MonitorForks', WHERE WHAT IT READS IS OF BULK AT MOST 1048576: true; the input reads as it did. -/
def monitorForksUptoRow : OpenClaim := { program := "ytkndgpjamijbbaa", sum := "acb8e4b320bcf13a8976acf5f6787e6d54b74b6a2682d0fd4eec2fb08112f7b6", func := "broadsheet/broadsheetlaw22.MonitorForks", spec := "monitorForks", unfollowed := true, recurses := true, apart := false, narrowed := true }
def MonitorForksUptoSaid : Prop := monitorForksUptoRow.holds Try.pinned (OpenSpec.upto monitorForksSpec)

/-- 'broadsheetlaw22.MonitorPieces', WHERE WHAT IT READS IS OF BULK AT MOST 1048576: true; the input reads as it did. -/
def monitorPiecesUptoRow : OpenClaim := { program := "ytkndgpjamijbbaa", sum := "acb8e4b320bcf13a8976acf5f6787e6d54b74b6a2682d0fd4eec2fb08112f7b6", func := "broadsheet/broadsheetlaw22.MonitorPieces", spec := "monitorPieces", unfollowed := true, recurses := true, apart := false, narrowed := true }
def MonitorPiecesUptoSaid : Prop := monitorPiecesUptoRow.holds Try.pinned (OpenSpec.upto monitorPiecesSpec)

/-- 'broadsheetlaw22.MonitorRefused', WHERE WHAT IT READS IS OF BULK AT MOST 1048576: true; the input reads as it did. -/
def monitorRefusedUptoRow : OpenClaim := { program := "ytkndgpjamijbbaa", sum := "acb8e4b320bcf13a8976acf5f6787e6d54b74b6a2682d0fd4eec2fb08112f7b6", func := "broadsheet/broadsheetlaw22.MonitorRefused", spec := "monitorRefused", unfollowed := true, recurses := true, apart := false, narrowed := true }
def MonitorRefusedUptoSaid : Prop := monitorRefusedUptoRow.holds Try.pinned (OpenSpec.upto monitorRefusedSpec)

end Rows
end Go.Proofs.Ytkndgpjamijbbaa

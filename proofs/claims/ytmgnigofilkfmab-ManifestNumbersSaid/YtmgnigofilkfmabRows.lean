/-
  No cell of these rows narrows 'for every input' (looked for: loops, veiled, ifaces, maps, wideKeys, modest, calm, conditions, laid).
  DERIVED. THE GIVEN ROWS OF THIS SEAT. 12 by the template 'for every input the law returns true; each argument reads behind the call as it read before'; 0 by the template 'total and deterministic' (their statements: YtmgnigofilkfmabTotals.lean).
  GIVEN WITH THE SEED: the statements are not yours to turn. If you find one false, say at which input.
  Laid BY PROGRAM, IN A SANDBOX (cutbox-rows.mjs): the forced cells as the released guide's own fill.sh prints them over the translation 2e1ae5f3a35deaac… (all of the seat's roots in one cut). By AI agents, Wed Nov 11 2026. No macro, syntax, notation, axiom, sorry.
-/
import Derived.Test.YtmgnigofilkfmabChecked
import GoSem.Claim
import GoSem.ClaimJoined
import GoSem.ClaimMapViews
import Derived.JoinedTies
import Derived.KernelRfl
namespace Go.Proofs.Ytmgnigofilkfmab
/- THE CELL 'sum', in the pinned program and in every row, IS THE sha256 OF THE DUMP (.gsa) THAT YtmgnigofilkfmabProg.lean LOADS. Nothing in Lean hashes anything: it is a label: what it is worth is what the hold of that sum in a sandbox is worth. -/
noncomputable def Try.pinned : Pinned := { name := "ytmgnigofilkfmab", sum := "2e1ae5f3a35deaacb888c3aa52a1f592229013f2f947ed6d7c6271edb73c18f2", checked := Try.checked }
namespace Rows
def none {H : Type} : Left H := { results := [], args := [] }

/-- 'broadsheetlaw9.ManifestCuts': WHATEVER THE INPUT: true; the input reads as it did. -/
def manifestCutsSpec : ChangeSpec := { name := "manifestCuts", fn := fun _ => fun
  | [d1, d2, d3, d4, d5] => { results := [.lit (.bool true)], args := [d1, d2, d3, d4, d5] }
  | _ => none }
def manifestCutsRow : OpenClaim := { program := "ytmgnigofilkfmab", sum := "2e1ae5f3a35deaacb888c3aa52a1f592229013f2f947ed6d7c6271edb73c18f2", func := "broadsheet/broadsheetlaw9.ManifestCuts", spec := "manifestCuts", apart := false }
def ManifestCutsSaid : Prop := manifestCutsRow.holds Try.pinned (OpenSpec.ofChange manifestCutsSpec)

/-- ITS FALSE NEIGHBOUR: 'it returns false'. Refute it at one input. -/
def manifestCutsWrong : ChangeSpec := { name := "manifestCuts", fn := fun _ => fun
  | [d1, d2, d3, d4, d5] => { results := [.lit (.bool false)], args := [d1, d2, d3, d4, d5] }
  | _ => none }
def ManifestCutsWrongFalsely : Prop := manifestCutsRow.holds Try.pinned (OpenSpec.ofChange manifestCutsWrong)

/-- 'broadsheetlaw9.ManifestBack': WHATEVER THE INPUT: true; the input reads as it did. -/
def manifestBackSpec : ChangeSpec := { name := "manifestBack", fn := fun _ => fun
  | [d1, d2, d3, d4, d5] => { results := [.lit (.bool true)], args := [d1, d2, d3, d4, d5] }
  | _ => none }
def manifestBackRow : OpenClaim := { program := "ytmgnigofilkfmab", sum := "2e1ae5f3a35deaacb888c3aa52a1f592229013f2f947ed6d7c6271edb73c18f2", func := "broadsheet/broadsheetlaw9.ManifestBack", spec := "manifestBack", apart := false }
def ManifestBackSaid : Prop := manifestBackRow.holds Try.pinned (OpenSpec.ofChange manifestBackSpec)

/-- ITS FALSE NEIGHBOUR: 'it returns false'. Refute it at one input. -/
def manifestBackWrong : ChangeSpec := { name := "manifestBack", fn := fun _ => fun
  | [d1, d2, d3, d4, d5] => { results := [.lit (.bool false)], args := [d1, d2, d3, d4, d5] }
  | _ => none }
def ManifestBackWrongFalsely : Prop := manifestBackRow.holds Try.pinned (OpenSpec.ofChange manifestBackWrong)

/-- 'broadsheetlaw9.ManifestNewer': WHATEVER THE INPUT: true; the input reads as it did. -/
def manifestNewerSpec : ChangeSpec := { name := "manifestNewer", fn := fun _ => fun
  | [d1, d2, d3, d4, d5] => { results := [.lit (.bool true)], args := [d1, d2, d3, d4, d5] }
  | _ => none }
def manifestNewerRow : OpenClaim := { program := "ytmgnigofilkfmab", sum := "2e1ae5f3a35deaacb888c3aa52a1f592229013f2f947ed6d7c6271edb73c18f2", func := "broadsheet/broadsheetlaw9.ManifestNewer", spec := "manifestNewer", apart := false }
def ManifestNewerSaid : Prop := manifestNewerRow.holds Try.pinned (OpenSpec.ofChange manifestNewerSpec)

/-- ITS FALSE NEIGHBOUR: 'it returns false'. Refute it at one input. -/
def manifestNewerWrong : ChangeSpec := { name := "manifestNewer", fn := fun _ => fun
  | [d1, d2, d3, d4, d5] => { results := [.lit (.bool false)], args := [d1, d2, d3, d4, d5] }
  | _ => none }
def ManifestNewerWrongFalsely : Prop := manifestNewerRow.holds Try.pinned (OpenSpec.ofChange manifestNewerWrong)

/-- 'broadsheetlaw9.ManifestFields': WHATEVER THE INPUT: true; the input reads as it did. -/
def manifestFieldsSpec : ChangeSpec := { name := "manifestFields", fn := fun _ => fun
  | [d1, d2, d3, d4, d5] => { results := [.lit (.bool true)], args := [d1, d2, d3, d4, d5] }
  | _ => none }
def manifestFieldsRow : OpenClaim := { program := "ytmgnigofilkfmab", sum := "2e1ae5f3a35deaacb888c3aa52a1f592229013f2f947ed6d7c6271edb73c18f2", func := "broadsheet/broadsheetlaw9.ManifestFields", spec := "manifestFields", apart := false }
def ManifestFieldsSaid : Prop := manifestFieldsRow.holds Try.pinned (OpenSpec.ofChange manifestFieldsSpec)

/-- ITS FALSE NEIGHBOUR: 'it returns false'. Refute it at one input. -/
def manifestFieldsWrong : ChangeSpec := { name := "manifestFields", fn := fun _ => fun
  | [d1, d2, d3, d4, d5] => { results := [.lit (.bool false)], args := [d1, d2, d3, d4, d5] }
  | _ => none }
def ManifestFieldsWrongFalsely : Prop := manifestFieldsRow.holds Try.pinned (OpenSpec.ofChange manifestFieldsWrong)

/-- 'broadsheetlaw9.ManifestNumbers': WHATEVER THE INPUT: true; the input reads as it did. -/
def manifestNumbersSpec : ChangeSpec := { name := "manifestNumbers", fn := fun _ => fun
  | [] => { results := [.lit (.bool true)], args := [] }
  | _ => none }
def manifestNumbersRow : OpenClaim := { program := "ytmgnigofilkfmab", sum := "2e1ae5f3a35deaacb888c3aa52a1f592229013f2f947ed6d7c6271edb73c18f2", func := "broadsheet/broadsheetlaw9.ManifestNumbers", spec := "manifestNumbers", unfollowed := true, recurses := true, apart := false }
def ManifestNumbersSaid : Prop := manifestNumbersRow.holds Try.pinned (OpenSpec.ofChange manifestNumbersSpec)

/-- ITS FALSE NEIGHBOUR: 'it returns false'. Refute it at one input. -/
def manifestNumbersWrong : ChangeSpec := { name := "manifestNumbers", fn := fun _ => fun
  | [] => { results := [.lit (.bool false)], args := [] }
  | _ => none }
def ManifestNumbersWrongFalsely : Prop := manifestNumbersRow.holds Try.pinned (OpenSpec.ofChange manifestNumbersWrong)

/-- 'broadsheetlaw9.ManifestTells': WHATEVER THE INPUT: true; the input reads as it did. -/
def manifestTellsSpec : ChangeSpec := { name := "manifestTells", fn := fun _ => fun
  | [d1, d2, d3, d4, d5, d6, d7] => { results := [.lit (.bool true)], args := [d1, d2, d3, d4, d5, d6, d7] }
  | _ => none }
def manifestTellsRow : OpenClaim := { program := "ytmgnigofilkfmab", sum := "2e1ae5f3a35deaacb888c3aa52a1f592229013f2f947ed6d7c6271edb73c18f2", func := "broadsheet/broadsheetlaw9.ManifestTells", spec := "manifestTells", unfollowed := true, recurses := true, apart := false }
def ManifestTellsSaid : Prop := manifestTellsRow.holds Try.pinned (OpenSpec.ofChange manifestTellsSpec)

/-- ITS FALSE NEIGHBOUR: 'it returns false'. Refute it at one input. -/
def manifestTellsWrong : ChangeSpec := { name := "manifestTells", fn := fun _ => fun
  | [d1, d2, d3, d4, d5, d6, d7] => { results := [.lit (.bool false)], args := [d1, d2, d3, d4, d5, d6, d7] }
  | _ => none }
def ManifestTellsWrongFalsely : Prop := manifestTellsRow.holds Try.pinned (OpenSpec.ofChange manifestTellsWrong)

/-- 'broadsheetlaw5.SignKeys': WHATEVER THE INPUT: true; the input reads as it did. -/
def signKeysSpec : ChangeSpec := { name := "signKeys", fn := fun _ => fun
  | [d1, d2] => { results := [.lit (.bool true)], args := [d1, d2] }
  | _ => none }
def signKeysRow : OpenClaim := { program := "ytmgnigofilkfmab", sum := "2e1ae5f3a35deaacb888c3aa52a1f592229013f2f947ed6d7c6271edb73c18f2", func := "broadsheet/broadsheetlaw5.SignKeys", spec := "signKeys", unfollowed := true, recurses := true, apart := false }
def SignKeysSaid : Prop := signKeysRow.holds Try.pinned (OpenSpec.ofChange signKeysSpec)

/-- ITS FALSE NEIGHBOUR: 'it returns false'. Refute it at one input. -/
def signKeysWrong : ChangeSpec := { name := "signKeys", fn := fun _ => fun
  | [d1, d2] => { results := [.lit (.bool false)], args := [d1, d2] }
  | _ => none }
def SignKeysWrongFalsely : Prop := signKeysRow.holds Try.pinned (OpenSpec.ofChange signKeysWrong)

/-- 'broadsheetlaw5.SignOthers': WHATEVER THE INPUT: true; the input reads as it did. -/
def signOthersSpec : ChangeSpec := { name := "signOthers", fn := fun _ => fun
  | [d1, d2, d3, d4, d5] => { results := [.lit (.bool true)], args := [d1, d2, d3, d4, d5] }
  | _ => none }
def signOthersRow : OpenClaim := { program := "ytmgnigofilkfmab", sum := "2e1ae5f3a35deaacb888c3aa52a1f592229013f2f947ed6d7c6271edb73c18f2", func := "broadsheet/broadsheetlaw5.SignOthers", spec := "signOthers", unfollowed := true, recurses := true, apart := false }
def SignOthersSaid : Prop := signOthersRow.holds Try.pinned (OpenSpec.ofChange signOthersSpec)

/-- ITS FALSE NEIGHBOUR: 'it returns false'. Refute it at one input. -/
def signOthersWrong : ChangeSpec := { name := "signOthers", fn := fun _ => fun
  | [d1, d2, d3, d4, d5] => { results := [.lit (.bool false)], args := [d1, d2, d3, d4, d5] }
  | _ => none }
def SignOthersWrongFalsely : Prop := signOthersRow.holds Try.pinned (OpenSpec.ofChange signOthersWrong)

/-- 'broadsheetlaw5.SignTells': WHATEVER THE INPUT: true; the input reads as it did. -/
def signTellsSpec : ChangeSpec := { name := "signTells", fn := fun _ => fun
  | [d1, d2, d3, d4] => { results := [.lit (.bool true)], args := [d1, d2, d3, d4] }
  | _ => none }
def signTellsRow : OpenClaim := { program := "ytmgnigofilkfmab", sum := "2e1ae5f3a35deaacb888c3aa52a1f592229013f2f947ed6d7c6271edb73c18f2", func := "broadsheet/broadsheetlaw5.SignTells", spec := "signTells", unfollowed := true, recurses := true, apart := false }
def SignTellsSaid : Prop := signTellsRow.holds Try.pinned (OpenSpec.ofChange signTellsSpec)

/-- ITS FALSE NEIGHBOUR: 'it returns false'. Refute it at one input. -/
def signTellsWrong : ChangeSpec := { name := "signTells", fn := fun _ => fun
  | [d1, d2, d3, d4] => { results := [.lit (.bool false)], args := [d1, d2, d3, d4] }
  | _ => none }
def SignTellsWrongFalsely : Prop := signTellsRow.holds Try.pinned (OpenSpec.ofChange signTellsWrong)

/-- 'broadsheetlaw5.SignTurned': WHATEVER THE INPUT: true; the input reads as it did. -/
def signTurnedSpec : ChangeSpec := { name := "signTurned", fn := fun _ => fun
  | [d1, d2, d3, d4, d5, d6, d7] => { results := [.lit (.bool true)], args := [d1, d2, d3, d4, d5, d6, d7] }
  | _ => none }
def signTurnedRow : OpenClaim := { program := "ytmgnigofilkfmab", sum := "2e1ae5f3a35deaacb888c3aa52a1f592229013f2f947ed6d7c6271edb73c18f2", func := "broadsheet/broadsheetlaw5.SignTurned", spec := "signTurned", unfollowed := true, recurses := true, apart := false }
def SignTurnedSaid : Prop := signTurnedRow.holds Try.pinned (OpenSpec.ofChange signTurnedSpec)

/-- ITS FALSE NEIGHBOUR: 'it returns false'. Refute it at one input. -/
def signTurnedWrong : ChangeSpec := { name := "signTurned", fn := fun _ => fun
  | [d1, d2, d3, d4, d5, d6, d7] => { results := [.lit (.bool false)], args := [d1, d2, d3, d4, d5, d6, d7] }
  | _ => none }
def SignTurnedWrongFalsely : Prop := signTurnedRow.holds Try.pinned (OpenSpec.ofChange signTurnedWrong)

/-- 'broadsheetlaw5.SignNumbers': WHATEVER THE INPUT: true; the input reads as it did. -/
def signNumbersSpec : ChangeSpec := { name := "signNumbers", fn := fun _ => fun
  | [] => { results := [.lit (.bool true)], args := [] }
  | _ => none }
def signNumbersRow : OpenClaim := { program := "ytmgnigofilkfmab", sum := "2e1ae5f3a35deaacb888c3aa52a1f592229013f2f947ed6d7c6271edb73c18f2", func := "broadsheet/broadsheetlaw5.SignNumbers", spec := "signNumbers", unfollowed := true, recurses := true, apart := false }
def SignNumbersSaid : Prop := signNumbersRow.holds Try.pinned (OpenSpec.ofChange signNumbersSpec)

/-- ITS FALSE NEIGHBOUR: 'it returns false'. Refute it at one input. -/
def signNumbersWrong : ChangeSpec := { name := "signNumbers", fn := fun _ => fun
  | [] => { results := [.lit (.bool false)], args := [] }
  | _ => none }
def SignNumbersWrongFalsely : Prop := signNumbersRow.holds Try.pinned (OpenSpec.ofChange signNumbersWrong)

/-- 'broadsheetlaw5.SignBack': WHATEVER THE INPUT: true; the input reads as it did. -/
def signBackSpec : ChangeSpec := { name := "signBack", fn := fun _ => fun
  | [d1, d2, d3, d4, d5, d6] => { results := [.lit (.bool true)], args := [d1, d2, d3, d4, d5, d6] }
  | _ => none }
def signBackRow : OpenClaim := { program := "ytmgnigofilkfmab", sum := "2e1ae5f3a35deaacb888c3aa52a1f592229013f2f947ed6d7c6271edb73c18f2", func := "broadsheet/broadsheetlaw5.SignBack", spec := "signBack", unfollowed := true, recurses := true, apart := false }
def SignBackSaid : Prop := signBackRow.holds Try.pinned (OpenSpec.ofChange signBackSpec)

/-- ITS FALSE NEIGHBOUR: 'it returns false'. Refute it at one input. -/
def signBackWrong : ChangeSpec := { name := "signBack", fn := fun _ => fun
  | [d1, d2, d3, d4, d5, d6] => { results := [.lit (.bool false)], args := [d1, d2, d3, d4, d5, d6] }
  | _ => none }
def SignBackWrongFalsely : Prop := signBackRow.holds Try.pinned (OpenSpec.ofChange signBackWrong)

/- THE SECOND FORM. 'bulk': how many values and letters a reading holds, each counted each time it is reached (what is shared counts as often as it is met; a slice's spare places count too). A statement '..UptoSaid' is the law's where the arguments, and the package variables that the reading takes, are together of bulk at most 1048576: NARROWER than '..Said'. Prove '..Said' where nothing that the law and all that it calls make is longer than what came in: it says more and counts as full. Else prove '..UptoSaid'. A law counts once. -/
mutual
def uptoBulk {H : Type} : DataW H → Nat
  | .lit (.string bytes) => bytes.length + 1
  | .lit _ => 1
  | .nil => 1
  | .ptr d => uptoBulk d + 1
  | .slice elems spare => uptoBulkAll elems + uptoBulkAll spare + 1
  | .agg parts => uptoBulkAll parts + 1
  | .iface _ d => uptoBulk d + 1
  | .map entries => uptoBulkEntries entries + 1
  | .held _ => 1
def uptoBulkAll {H : Type} : List (DataW H) → Nat
  | [] => 0
  | d :: r => uptoBulk d + uptoBulkAll r
def uptoBulkEntries {H : Type} : List (Lit × DataW H) → Nat
  | [] => 0
  | x :: r => uptoBulkEntry x + uptoBulkEntries r
def uptoBulkEntry {H : Type} : Lit × DataW H → Nat
  | (.string bytes, d) => bytes.length + uptoBulk d + 1
  | (_, d) => uptoBulk d + 1
 end
def uptoSmall : (H : Type) → List (DataW H) → Bool := fun _ ds => decide (uptoBulkAll ds ≤ 1048576)
def OpenSpec.upto (s : _root_.Go.ChangeSpec) : _root_.Go.OpenSpec := { _root_.Go.OpenSpec.ofChange s with cond := some uptoSmall }

/-- 'broadsheetlaw9.ManifestCuts', WHERE WHAT IT READS IS OF BULK AT MOST 1048576: true; the input reads as it did. -/
def manifestCutsUptoRow : OpenClaim := { program := "ytmgnigofilkfmab", sum := "2e1ae5f3a35deaacb888c3aa52a1f592229013f2f947ed6d7c6271edb73c18f2", func := "broadsheet/broadsheetlaw9.ManifestCuts", spec := "manifestCuts", apart := false, narrowed := true }
def ManifestCutsUptoSaid : Prop := manifestCutsUptoRow.holds Try.pinned (OpenSpec.upto manifestCutsSpec)

/-- 'broadsheetlaw9.ManifestBack', WHERE WHAT IT READS IS OF BULK AT MOST 1048576: true; the input reads as it did. -/
def manifestBackUptoRow : OpenClaim := { program := "ytmgnigofilkfmab", sum := "2e1ae5f3a35deaacb888c3aa52a1f592229013f2f947ed6d7c6271edb73c18f2", func := "broadsheet/broadsheetlaw9.ManifestBack", spec := "manifestBack", apart := false, narrowed := true }
def ManifestBackUptoSaid : Prop := manifestBackUptoRow.holds Try.pinned (OpenSpec.upto manifestBackSpec)

/-- 'broadsheetlaw9.ManifestNewer', WHERE WHAT IT READS IS OF BULK AT MOST 1048576: true; the input reads as it did. -/
def manifestNewerUptoRow : OpenClaim := { program := "ytmgnigofilkfmab", sum := "2e1ae5f3a35deaacb888c3aa52a1f592229013f2f947ed6d7c6271edb73c18f2", func := "broadsheet/broadsheetlaw9.ManifestNewer", spec := "manifestNewer", apart := false, narrowed := true }
def ManifestNewerUptoSaid : Prop := manifestNewerUptoRow.holds Try.pinned (OpenSpec.upto manifestNewerSpec)

/-- 'broadsheetlaw9.ManifestFields', WHERE WHAT IT READS IS OF BULK AT MOST 1048576: true; the input reads as it did. -/
def manifestFieldsUptoRow : OpenClaim := { program := "ytmgnigofilkfmab", sum := "2e1ae5f3a35deaacb888c3aa52a1f592229013f2f947ed6d7c6271edb73c18f2", func := "broadsheet/broadsheetlaw9.ManifestFields", spec := "manifestFields", apart := false, narrowed := true }
def ManifestFieldsUptoSaid : Prop := manifestFieldsUptoRow.holds Try.pinned (OpenSpec.upto manifestFieldsSpec)

/-- 'broadsheetlaw9.ManifestNumbers', WHERE WHAT IT READS IS OF BULK AT MOST 1048576: true; the input reads as it did. -/
def manifestNumbersUptoRow : OpenClaim := { program := "ytmgnigofilkfmab", sum := "2e1ae5f3a35deaacb888c3aa52a1f592229013f2f947ed6d7c6271edb73c18f2", func := "broadsheet/broadsheetlaw9.ManifestNumbers", spec := "manifestNumbers", unfollowed := true, recurses := true, apart := false, narrowed := true }
def ManifestNumbersUptoSaid : Prop := manifestNumbersUptoRow.holds Try.pinned (OpenSpec.upto manifestNumbersSpec)

/-- 'broadsheetlaw9.ManifestTells', WHERE WHAT IT READS IS OF BULK AT MOST 1048576: true; the input reads as it did. -/
def manifestTellsUptoRow : OpenClaim := { program := "ytmgnigofilkfmab", sum := "2e1ae5f3a35deaacb888c3aa52a1f592229013f2f947ed6d7c6271edb73c18f2", func := "broadsheet/broadsheetlaw9.ManifestTells", spec := "manifestTells", unfollowed := true, recurses := true, apart := false, narrowed := true }
def ManifestTellsUptoSaid : Prop := manifestTellsUptoRow.holds Try.pinned (OpenSpec.upto manifestTellsSpec)

/-- 'broadsheetlaw5.SignKeys', WHERE WHAT IT READS IS OF BULK AT MOST 1048576: true; the input reads as it did. -/
def signKeysUptoRow : OpenClaim := { program := "ytmgnigofilkfmab", sum := "2e1ae5f3a35deaacb888c3aa52a1f592229013f2f947ed6d7c6271edb73c18f2", func := "broadsheet/broadsheetlaw5.SignKeys", spec := "signKeys", unfollowed := true, recurses := true, apart := false, narrowed := true }
def SignKeysUptoSaid : Prop := signKeysUptoRow.holds Try.pinned (OpenSpec.upto signKeysSpec)

/-- 'broadsheetlaw5.SignOthers', WHERE WHAT IT READS IS OF BULK AT MOST 1048576: true; the input reads as it did. -/
def signOthersUptoRow : OpenClaim := { program := "ytmgnigofilkfmab", sum := "2e1ae5f3a35deaacb888c3aa52a1f592229013f2f947ed6d7c6271edb73c18f2", func := "broadsheet/broadsheetlaw5.SignOthers", spec := "signOthers", unfollowed := true, recurses := true, apart := false, narrowed := true }
def SignOthersUptoSaid : Prop := signOthersUptoRow.holds Try.pinned (OpenSpec.upto signOthersSpec)

/-- 'broadsheetlaw5.SignTells', WHERE WHAT IT READS IS OF BULK AT MOST 1048576: true; the input reads as it did. -/
def signTellsUptoRow : OpenClaim := { program := "ytmgnigofilkfmab", sum := "2e1ae5f3a35deaacb888c3aa52a1f592229013f2f947ed6d7c6271edb73c18f2", func := "broadsheet/broadsheetlaw5.SignTells", spec := "signTells", unfollowed := true, recurses := true, apart := false, narrowed := true }
def SignTellsUptoSaid : Prop := signTellsUptoRow.holds Try.pinned (OpenSpec.upto signTellsSpec)

/-- 'broadsheetlaw5.SignTurned', WHERE WHAT IT READS IS OF BULK AT MOST 1048576: true; the input reads as it did. -/
def signTurnedUptoRow : OpenClaim := { program := "ytmgnigofilkfmab", sum := "2e1ae5f3a35deaacb888c3aa52a1f592229013f2f947ed6d7c6271edb73c18f2", func := "broadsheet/broadsheetlaw5.SignTurned", spec := "signTurned", unfollowed := true, recurses := true, apart := false, narrowed := true }
def SignTurnedUptoSaid : Prop := signTurnedUptoRow.holds Try.pinned (OpenSpec.upto signTurnedSpec)

/-- 'broadsheetlaw5.SignNumbers', WHERE WHAT IT READS IS OF BULK AT MOST 1048576: true; the input reads as it did. -/
def signNumbersUptoRow : OpenClaim := { program := "ytmgnigofilkfmab", sum := "2e1ae5f3a35deaacb888c3aa52a1f592229013f2f947ed6d7c6271edb73c18f2", func := "broadsheet/broadsheetlaw5.SignNumbers", spec := "signNumbers", unfollowed := true, recurses := true, apart := false, narrowed := true }
def SignNumbersUptoSaid : Prop := signNumbersUptoRow.holds Try.pinned (OpenSpec.upto signNumbersSpec)

/-- 'broadsheetlaw5.SignBack', WHERE WHAT IT READS IS OF BULK AT MOST 1048576: true; the input reads as it did. -/
def signBackUptoRow : OpenClaim := { program := "ytmgnigofilkfmab", sum := "2e1ae5f3a35deaacb888c3aa52a1f592229013f2f947ed6d7c6271edb73c18f2", func := "broadsheet/broadsheetlaw5.SignBack", spec := "signBack", unfollowed := true, recurses := true, apart := false, narrowed := true }
def SignBackUptoSaid : Prop := signBackUptoRow.holds Try.pinned (OpenSpec.upto signBackSpec)

end Rows
end Go.Proofs.Ytmgnigofilkfmab

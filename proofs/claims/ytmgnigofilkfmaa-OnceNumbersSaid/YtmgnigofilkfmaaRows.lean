/-
  No cell of these rows narrows 'for every input' (looked for: loops, veiled, ifaces, maps, wideKeys, modest, calm, conditions, laid).
  DERIVED. THE GIVEN ROWS OF THIS SEAT. 12 by the template 'for every input the law returns true; each argument reads behind the call as it read before'; 0 by the template 'total and deterministic' (their statements: YtmgnigofilkfmaaTotals.lean).
  GIVEN WITH THE SEED: the statements are not yours to turn. If you find one false, say at which input.
  Laid BY PROGRAM, IN A SANDBOX (cutbox-rows.mjs): the forced cells as the released guide's own fill.sh prints them over the translation f9d703232382e7ad… (all of the seat's roots in one cut). By AI agents, Wed Nov 11 2026. No macro, syntax, notation, axiom, sorry.
-/
import Derived.Test.YtmgnigofilkfmaaChecked
import GoSem.Claim
import GoSem.ClaimJoined
import GoSem.ClaimMapViews
import Derived.JoinedTies
import Derived.KernelRfl
namespace Go.Proofs.Ytmgnigofilkfmaa
/- THE CELL 'sum', in the pinned program and in every row, IS THE sha256 OF THE DUMP (.gsa) THAT YtmgnigofilkfmaaProg.lean LOADS. Nothing in Lean hashes anything: it is a label: what it is worth is what the hold of that sum in a sandbox is worth. -/
noncomputable def Try.pinned : Pinned := { name := "ytmgnigofilkfmaa", sum := "f9d703232382e7ad778f7124420b9a0e6a84cae12b3395ab2c12dc0baafa781b", checked := Try.checked }
namespace Rows
def none {H : Type} : Left H := { results := [], args := [] }

/-- 'broadsheetlaw2.HashGiven': WHATEVER THE INPUT: true; the input reads as it did. -/
def hashGivenSpec : ChangeSpec := { name := "hashGiven", fn := fun _ => fun
  | [d] => { results := [.lit (.bool true)], args := [d] }
  | _ => none }
def hashGivenRow : OpenClaim := { program := "ytmgnigofilkfmaa", sum := "f9d703232382e7ad778f7124420b9a0e6a84cae12b3395ab2c12dc0baafa781b", func := "broadsheet/broadsheetlaw2.HashGiven", spec := "hashGiven", unfollowed := true, recurses := true, apart := false }
def HashGivenSaid : Prop := hashGivenRow.holds Try.pinned (OpenSpec.ofChange hashGivenSpec)

/-- ITS FALSE NEIGHBOUR: 'it returns false'. Refute it at one input. -/
def hashGivenWrong : ChangeSpec := { name := "hashGiven", fn := fun _ => fun
  | [d] => { results := [.lit (.bool false)], args := [d] }
  | _ => none }
def HashGivenWrongFalsely : Prop := hashGivenRow.holds Try.pinned (OpenSpec.ofChange hashGivenWrong)

/-- 'broadsheetlaw2.HashLongs': WHATEVER THE INPUT: true; the input reads as it did. -/
def hashLongsSpec : ChangeSpec := { name := "hashLongs", fn := fun _ => fun
  | [d1, d2] => { results := [.lit (.bool true)], args := [d1, d2] }
  | _ => none }
def hashLongsRow : OpenClaim := { program := "ytmgnigofilkfmaa", sum := "f9d703232382e7ad778f7124420b9a0e6a84cae12b3395ab2c12dc0baafa781b", func := "broadsheet/broadsheetlaw2.HashLongs", spec := "hashLongs", unfollowed := true, recurses := true, apart := false }
def HashLongsSaid : Prop := hashLongsRow.holds Try.pinned (OpenSpec.ofChange hashLongsSpec)

/-- ITS FALSE NEIGHBOUR: 'it returns false'. Refute it at one input. -/
def hashLongsWrong : ChangeSpec := { name := "hashLongs", fn := fun _ => fun
  | [d1, d2] => { results := [.lit (.bool false)], args := [d1, d2] }
  | _ => none }
def HashLongsWrongFalsely : Prop := hashLongsRow.holds Try.pinned (OpenSpec.ofChange hashLongsWrong)

/-- 'broadsheetlaw2.HashNumbers': WHATEVER THE INPUT: true; the input reads as it did. -/
def hashNumbersSpec : ChangeSpec := { name := "hashNumbers", fn := fun _ => fun
  | [] => { results := [.lit (.bool true)], args := [] }
  | _ => none }
def hashNumbersRow : OpenClaim := { program := "ytmgnigofilkfmaa", sum := "f9d703232382e7ad778f7124420b9a0e6a84cae12b3395ab2c12dc0baafa781b", func := "broadsheet/broadsheetlaw2.HashNumbers", spec := "hashNumbers", unfollowed := true, recurses := true, apart := false }
def HashNumbersSaid : Prop := hashNumbersRow.holds Try.pinned (OpenSpec.ofChange hashNumbersSpec)

/-- ITS FALSE NEIGHBOUR: 'it returns false'. Refute it at one input. -/
def hashNumbersWrong : ChangeSpec := { name := "hashNumbers", fn := fun _ => fun
  | [] => { results := [.lit (.bool false)], args := [] }
  | _ => none }
def HashNumbersWrongFalsely : Prop := hashNumbersRow.holds Try.pinned (OpenSpec.ofChange hashNumbersWrong)

/-- 'broadsheetlaw2.HashJoins': WHATEVER THE INPUT: true; the input reads as it did. -/
def hashJoinsSpec : ChangeSpec := { name := "hashJoins", fn := fun _ => fun
  | [d1, d2, d3] => { results := [.lit (.bool true)], args := [d1, d2, d3] }
  | _ => none }
def hashJoinsRow : OpenClaim := { program := "ytmgnigofilkfmaa", sum := "f9d703232382e7ad778f7124420b9a0e6a84cae12b3395ab2c12dc0baafa781b", func := "broadsheet/broadsheetlaw2.HashJoins", spec := "hashJoins", unfollowed := true, recurses := true, apart := false }
def HashJoinsSaid : Prop := hashJoinsRow.holds Try.pinned (OpenSpec.ofChange hashJoinsSpec)

/-- ITS FALSE NEIGHBOUR: 'it returns false'. Refute it at one input. -/
def hashJoinsWrong : ChangeSpec := { name := "hashJoins", fn := fun _ => fun
  | [d1, d2, d3] => { results := [.lit (.bool false)], args := [d1, d2, d3] }
  | _ => none }
def HashJoinsWrongFalsely : Prop := hashJoinsRow.holds Try.pinned (OpenSpec.ofChange hashJoinsWrong)

/-- 'broadsheetlaw2.HashTells': WHATEVER THE INPUT: true; the input reads as it did. -/
def hashTellsSpec : ChangeSpec := { name := "hashTells", fn := fun _ => fun
  | [d1, d2, d3] => { results := [.lit (.bool true)], args := [d1, d2, d3] }
  | _ => none }
def hashTellsRow : OpenClaim := { program := "ytmgnigofilkfmaa", sum := "f9d703232382e7ad778f7124420b9a0e6a84cae12b3395ab2c12dc0baafa781b", func := "broadsheet/broadsheetlaw2.HashTells", spec := "hashTells", unfollowed := true, recurses := true, apart := false }
def HashTellsSaid : Prop := hashTellsRow.holds Try.pinned (OpenSpec.ofChange hashTellsSpec)

/-- ITS FALSE NEIGHBOUR: 'it returns false'. Refute it at one input. -/
def hashTellsWrong : ChangeSpec := { name := "hashTells", fn := fun _ => fun
  | [d1, d2, d3] => { results := [.lit (.bool false)], args := [d1, d2, d3] }
  | _ => none }
def HashTellsWrongFalsely : Prop := hashTellsRow.holds Try.pinned (OpenSpec.ofChange hashTellsWrong)

/-- 'broadsheetlaw4.OnceNumbers': WHATEVER THE INPUT: true; the input reads as it did. -/
def onceNumbersSpec : ChangeSpec := { name := "onceNumbers", fn := fun _ => fun
  | [] => { results := [.lit (.bool true)], args := [] }
  | _ => none }
def onceNumbersRow : OpenClaim := { program := "ytmgnigofilkfmaa", sum := "f9d703232382e7ad778f7124420b9a0e6a84cae12b3395ab2c12dc0baafa781b", func := "broadsheet/broadsheetlaw4.OnceNumbers", spec := "onceNumbers", unfollowed := true, recurses := true, apart := false }
def OnceNumbersSaid : Prop := onceNumbersRow.holds Try.pinned (OpenSpec.ofChange onceNumbersSpec)

/-- ITS FALSE NEIGHBOUR: 'it returns false'. Refute it at one input. -/
def onceNumbersWrong : ChangeSpec := { name := "onceNumbers", fn := fun _ => fun
  | [] => { results := [.lit (.bool false)], args := [] }
  | _ => none }
def OnceNumbersWrongFalsely : Prop := onceNumbersRow.holds Try.pinned (OpenSpec.ofChange onceNumbersWrong)

/-- 'broadsheetlaw4.OnceTells': WHATEVER THE INPUT: true; the input reads as it did. -/
def onceTellsSpec : ChangeSpec := { name := "onceTells", fn := fun _ => fun
  | [d1, d2, d3, d4, d5] => { results := [.lit (.bool true)], args := [d1, d2, d3, d4, d5] }
  | _ => none }
def onceTellsRow : OpenClaim := { program := "ytmgnigofilkfmaa", sum := "f9d703232382e7ad778f7124420b9a0e6a84cae12b3395ab2c12dc0baafa781b", func := "broadsheet/broadsheetlaw4.OnceTells", spec := "onceTells", unfollowed := true, recurses := true, apart := false }
def OnceTellsSaid : Prop := onceTellsRow.holds Try.pinned (OpenSpec.ofChange onceTellsSpec)

/-- ITS FALSE NEIGHBOUR: 'it returns false'. Refute it at one input. -/
def onceTellsWrong : ChangeSpec := { name := "onceTells", fn := fun _ => fun
  | [d1, d2, d3, d4, d5] => { results := [.lit (.bool false)], args := [d1, d2, d3, d4, d5] }
  | _ => none }
def OnceTellsWrongFalsely : Prop := onceTellsRow.holds Try.pinned (OpenSpec.ofChange onceTellsWrong)

/-- 'broadsheetlaw4.OnceRoots': WHATEVER THE INPUT: true; the input reads as it did. -/
def onceRootsSpec : ChangeSpec := { name := "onceRoots", fn := fun _ => fun
  | [d1, d2, d3, d4] => { results := [.lit (.bool true)], args := [d1, d2, d3, d4] }
  | _ => none }
def onceRootsRow : OpenClaim := { program := "ytmgnigofilkfmaa", sum := "f9d703232382e7ad778f7124420b9a0e6a84cae12b3395ab2c12dc0baafa781b", func := "broadsheet/broadsheetlaw4.OnceRoots", spec := "onceRoots", unfollowed := true, recurses := true, apart := false }
def OnceRootsSaid : Prop := onceRootsRow.holds Try.pinned (OpenSpec.ofChange onceRootsSpec)

/-- ITS FALSE NEIGHBOUR: 'it returns false'. Refute it at one input. -/
def onceRootsWrong : ChangeSpec := { name := "onceRoots", fn := fun _ => fun
  | [d1, d2, d3, d4] => { results := [.lit (.bool false)], args := [d1, d2, d3, d4] }
  | _ => none }
def OnceRootsWrongFalsely : Prop := onceRootsRow.holds Try.pinned (OpenSpec.ofChange onceRootsWrong)

/-- 'broadsheetlaw4.OnceBack': WHATEVER THE INPUT: true; the input reads as it did. -/
def onceBackSpec : ChangeSpec := { name := "onceBack", fn := fun _ => fun
  | [d1, d2, d3] => { results := [.lit (.bool true)], args := [d1, d2, d3] }
  | _ => none }
def onceBackRow : OpenClaim := { program := "ytmgnigofilkfmaa", sum := "f9d703232382e7ad778f7124420b9a0e6a84cae12b3395ab2c12dc0baafa781b", func := "broadsheet/broadsheetlaw4.OnceBack", spec := "onceBack", unfollowed := true, recurses := true, apart := false }
def OnceBackSaid : Prop := onceBackRow.holds Try.pinned (OpenSpec.ofChange onceBackSpec)

/-- ITS FALSE NEIGHBOUR: 'it returns false'. Refute it at one input. -/
def onceBackWrong : ChangeSpec := { name := "onceBack", fn := fun _ => fun
  | [d1, d2, d3] => { results := [.lit (.bool false)], args := [d1, d2, d3] }
  | _ => none }
def OnceBackWrongFalsely : Prop := onceBackRow.holds Try.pinned (OpenSpec.ofChange onceBackWrong)

/-- 'broadsheetlaw4.OnceSides': WHATEVER THE INPUT: true; the input reads as it did. -/
def onceSidesSpec : ChangeSpec := { name := "onceSides", fn := fun _ => fun
  | [d1, d2, d3] => { results := [.lit (.bool true)], args := [d1, d2, d3] }
  | _ => none }
def onceSidesRow : OpenClaim := { program := "ytmgnigofilkfmaa", sum := "f9d703232382e7ad778f7124420b9a0e6a84cae12b3395ab2c12dc0baafa781b", func := "broadsheet/broadsheetlaw4.OnceSides", spec := "onceSides", unfollowed := true, recurses := true, apart := false }
def OnceSidesSaid : Prop := onceSidesRow.holds Try.pinned (OpenSpec.ofChange onceSidesSpec)

/-- ITS FALSE NEIGHBOUR: 'it returns false'. Refute it at one input. -/
def onceSidesWrong : ChangeSpec := { name := "onceSides", fn := fun _ => fun
  | [d1, d2, d3] => { results := [.lit (.bool false)], args := [d1, d2, d3] }
  | _ => none }
def OnceSidesWrongFalsely : Prop := onceSidesRow.holds Try.pinned (OpenSpec.ofChange onceSidesWrong)

/-- 'broadsheetlaw4.OnceTurned': WHATEVER THE INPUT: true; the input reads as it did. -/
def onceTurnedSpec : ChangeSpec := { name := "onceTurned", fn := fun _ => fun
  | [d1, d2, d3, d4] => { results := [.lit (.bool true)], args := [d1, d2, d3, d4] }
  | _ => none }
def onceTurnedRow : OpenClaim := { program := "ytmgnigofilkfmaa", sum := "f9d703232382e7ad778f7124420b9a0e6a84cae12b3395ab2c12dc0baafa781b", func := "broadsheet/broadsheetlaw4.OnceTurned", spec := "onceTurned", unfollowed := true, recurses := true, apart := false }
def OnceTurnedSaid : Prop := onceTurnedRow.holds Try.pinned (OpenSpec.ofChange onceTurnedSpec)

/-- ITS FALSE NEIGHBOUR: 'it returns false'. Refute it at one input. -/
def onceTurnedWrong : ChangeSpec := { name := "onceTurned", fn := fun _ => fun
  | [d1, d2, d3, d4] => { results := [.lit (.bool false)], args := [d1, d2, d3, d4] }
  | _ => none }
def OnceTurnedWrongFalsely : Prop := onceTurnedRow.holds Try.pinned (OpenSpec.ofChange onceTurnedWrong)

/-- 'broadsheetlaw4.OnceAgain': WHATEVER THE INPUT: true; the input reads as it did. -/
def onceAgainSpec : ChangeSpec := { name := "onceAgain", fn := fun _ => fun
  | [d1, d2, d3] => { results := [.lit (.bool true)], args := [d1, d2, d3] }
  | _ => none }
def onceAgainRow : OpenClaim := { program := "ytmgnigofilkfmaa", sum := "f9d703232382e7ad778f7124420b9a0e6a84cae12b3395ab2c12dc0baafa781b", func := "broadsheet/broadsheetlaw4.OnceAgain", spec := "onceAgain", unfollowed := true, recurses := true, apart := false }
def OnceAgainSaid : Prop := onceAgainRow.holds Try.pinned (OpenSpec.ofChange onceAgainSpec)

/-- ITS FALSE NEIGHBOUR: 'it returns false'. Refute it at one input. -/
def onceAgainWrong : ChangeSpec := { name := "onceAgain", fn := fun _ => fun
  | [d1, d2, d3] => { results := [.lit (.bool false)], args := [d1, d2, d3] }
  | _ => none }
def OnceAgainWrongFalsely : Prop := onceAgainRow.holds Try.pinned (OpenSpec.ofChange onceAgainWrong)

/- THE SECOND FORM. 'bulk': how many values and letters a reading holds, each counted each time it is reached (what is shared counts as often as it is met; a slice's spare places count too). A statement '..UptoSaid' is the law's where the arguments, and the package variables that the reading takes, are together of bulk at most 1048576: NARROWER than '..Said'. Prove '..Said' where nothing that the law and all that it calls make is longer than what came in: it says more and counts as full. Else prove '..UptoSaid'. A law counts once. -/
mutual
def uptoBulk {H : Type} : DataW H → Nat
  | .lit (.string bytes) => bytes.length + 1
  | .lit _ => 1
  | .nil => 1
  | .ptr d => uptoBulk d + 1
  | .slice elems spare => uptoBulkAll elems + uptoBulkAll spare + 1
  | .agg parts => uptoBulkAll parts + 1
  | .iface _ d => uptoBulk d + 1
  | .map entries => uptoBulkEntries entries + 1
  | .held _ => 1
def uptoBulkAll {H : Type} : List (DataW H) → Nat
  | [] => 0
  | d :: r => uptoBulk d + uptoBulkAll r
def uptoBulkEntries {H : Type} : List (Lit × DataW H) → Nat
  | [] => 0
  | x :: r => uptoBulkEntry x + uptoBulkEntries r
def uptoBulkEntry {H : Type} : Lit × DataW H → Nat
  | (.string bytes, d) => bytes.length + uptoBulk d + 1
  | (_, d) => uptoBulk d + 1
 end
def uptoSmall : (H : Type) → List (DataW H) → Bool := fun _ ds => decide (uptoBulkAll ds ≤ 1048576)
def OpenSpec.upto (s : _root_.Go.ChangeSpec) : _root_.Go.OpenSpec := { _root_.Go.OpenSpec.ofChange s with cond := some uptoSmall }

/-- 'broadsheetlaw2.HashGiven', WHERE WHAT IT READS IS OF BULK AT MOST 1048576: true; the input reads as it did. -/
def hashGivenUptoRow : OpenClaim := { program := "ytmgnigofilkfmaa", sum := "f9d703232382e7ad778f7124420b9a0e6a84cae12b3395ab2c12dc0baafa781b", func := "broadsheet/broadsheetlaw2.HashGiven", spec := "hashGiven", unfollowed := true, recurses := true, apart := false, narrowed := true }
def HashGivenUptoSaid : Prop := hashGivenUptoRow.holds Try.pinned (OpenSpec.upto hashGivenSpec)

/-- 'broadsheetlaw2.HashLongs', WHERE WHAT IT READS IS OF BULK AT MOST 1048576: true; the input reads as it did. -/
def hashLongsUptoRow : OpenClaim := { program := "ytmgnigofilkfmaa", sum := "f9d703232382e7ad778f7124420b9a0e6a84cae12b3395ab2c12dc0baafa781b", func := "broadsheet/broadsheetlaw2.HashLongs", spec := "hashLongs", unfollowed := true, recurses := true, apart := false, narrowed := true }
def HashLongsUptoSaid : Prop := hashLongsUptoRow.holds Try.pinned (OpenSpec.upto hashLongsSpec)

/-- 'broadsheetlaw2.HashNumbers', WHERE WHAT IT READS IS OF BULK AT MOST 1048576: true; the input reads as it did. -/
def hashNumbersUptoRow : OpenClaim := { program := "ytmgnigofilkfmaa", sum := "f9d703232382e7ad778f7124420b9a0e6a84cae12b3395ab2c12dc0baafa781b", func := "broadsheet/broadsheetlaw2.HashNumbers", spec := "hashNumbers", unfollowed := true, recurses := true, apart := false, narrowed := true }
def HashNumbersUptoSaid : Prop := hashNumbersUptoRow.holds Try.pinned (OpenSpec.upto hashNumbersSpec)

/-- 'broadsheetlaw2.HashJoins', WHERE WHAT IT READS IS OF BULK AT MOST 1048576: true; the input reads as it did. -/
def hashJoinsUptoRow : OpenClaim := { program := "ytmgnigofilkfmaa", sum := "f9d703232382e7ad778f7124420b9a0e6a84cae12b3395ab2c12dc0baafa781b", func := "broadsheet/broadsheetlaw2.HashJoins", spec := "hashJoins", unfollowed := true, recurses := true, apart := false, narrowed := true }
def HashJoinsUptoSaid : Prop := hashJoinsUptoRow.holds Try.pinned (OpenSpec.upto hashJoinsSpec)

/-- 'broadsheetlaw2.HashTells', WHERE WHAT IT READS IS OF BULK AT MOST 1048576: true; the input reads as it did. -/
def hashTellsUptoRow : OpenClaim := { program := "ytmgnigofilkfmaa", sum := "f9d703232382e7ad778f7124420b9a0e6a84cae12b3395ab2c12dc0baafa781b", func := "broadsheet/broadsheetlaw2.HashTells", spec := "hashTells", unfollowed := true, recurses := true, apart := false, narrowed := true }
def HashTellsUptoSaid : Prop := hashTellsUptoRow.holds Try.pinned (OpenSpec.upto hashTellsSpec)

/-- 'broadsheetlaw4.OnceNumbers', WHERE WHAT IT READS IS OF BULK AT MOST 1048576: true; the input reads as it did. -/
def onceNumbersUptoRow : OpenClaim := { program := "ytmgnigofilkfmaa", sum := "f9d703232382e7ad778f7124420b9a0e6a84cae12b3395ab2c12dc0baafa781b", func := "broadsheet/broadsheetlaw4.OnceNumbers", spec := "onceNumbers", unfollowed := true, recurses := true, apart := false, narrowed := true }
def OnceNumbersUptoSaid : Prop := onceNumbersUptoRow.holds Try.pinned (OpenSpec.upto onceNumbersSpec)

/-- 'broadsheetlaw4.OnceTells', WHERE WHAT IT READS IS OF BULK AT MOST 1048576: true; the input reads as it did. -/
def onceTellsUptoRow : OpenClaim := { program := "ytmgnigofilkfmaa", sum := "f9d703232382e7ad778f7124420b9a0e6a84cae12b3395ab2c12dc0baafa781b", func := "broadsheet/broadsheetlaw4.OnceTells", spec := "onceTells", unfollowed := true, recurses := true, apart := false, narrowed := true }
def OnceTellsUptoSaid : Prop := onceTellsUptoRow.holds Try.pinned (OpenSpec.upto onceTellsSpec)

/-- 'broadsheetlaw4.OnceRoots', WHERE WHAT IT READS IS OF BULK AT MOST 1048576: true; the input reads as it did. -/
def onceRootsUptoRow : OpenClaim := { program := "ytmgnigofilkfmaa", sum := "f9d703232382e7ad778f7124420b9a0e6a84cae12b3395ab2c12dc0baafa781b", func := "broadsheet/broadsheetlaw4.OnceRoots", spec := "onceRoots", unfollowed := true, recurses := true, apart := false, narrowed := true }
def OnceRootsUptoSaid : Prop := onceRootsUptoRow.holds Try.pinned (OpenSpec.upto onceRootsSpec)

/-- 'broadsheetlaw4.OnceBack', WHERE WHAT IT READS IS OF BULK AT MOST 1048576: true; the input reads as it did. -/
def onceBackUptoRow : OpenClaim := { program := "ytmgnigofilkfmaa", sum := "f9d703232382e7ad778f7124420b9a0e6a84cae12b3395ab2c12dc0baafa781b", func := "broadsheet/broadsheetlaw4.OnceBack", spec := "onceBack", unfollowed := true, recurses := true, apart := false, narrowed := true }
def OnceBackUptoSaid : Prop := onceBackUptoRow.holds Try.pinned (OpenSpec.upto onceBackSpec)

/-- 'broadsheetlaw4.OnceSides', WHERE WHAT IT READS IS OF BULK AT MOST 1048576: true; the input reads as it did. -/
def onceSidesUptoRow : OpenClaim := { program := "ytmgnigofilkfmaa", sum := "f9d703232382e7ad778f7124420b9a0e6a84cae12b3395ab2c12dc0baafa781b", func := "broadsheet/broadsheetlaw4.OnceSides", spec := "onceSides", unfollowed := true, recurses := true, apart := false, narrowed := true }
def OnceSidesUptoSaid : Prop := onceSidesUptoRow.holds Try.pinned (OpenSpec.upto onceSidesSpec)

/-- 'broadsheetlaw4.OnceTurned', WHERE WHAT IT READS IS OF BULK AT MOST 1048576: true; the input reads as it did. -/
def onceTurnedUptoRow : OpenClaim := { program := "ytmgnigofilkfmaa", sum := "f9d703232382e7ad778f7124420b9a0e6a84cae12b3395ab2c12dc0baafa781b", func := "broadsheet/broadsheetlaw4.OnceTurned", spec := "onceTurned", unfollowed := true, recurses := true, apart := false, narrowed := true }
def OnceTurnedUptoSaid : Prop := onceTurnedUptoRow.holds Try.pinned (OpenSpec.upto onceTurnedSpec)

/-- 'broadsheetlaw4.OnceAgain', WHERE WHAT IT READS IS OF BULK AT MOST 1048576: true; the input reads as it did. -/
def onceAgainUptoRow : OpenClaim := { program := "ytmgnigofilkfmaa", sum := "f9d703232382e7ad778f7124420b9a0e6a84cae12b3395ab2c12dc0baafa781b", func := "broadsheet/broadsheetlaw4.OnceAgain", spec := "onceAgain", unfollowed := true, recurses := true, apart := false, narrowed := true }
def OnceAgainUptoSaid : Prop := onceAgainUptoRow.holds Try.pinned (OpenSpec.upto onceAgainSpec)

end Rows
end Go.Proofs.Ytmgnigofilkfmaa

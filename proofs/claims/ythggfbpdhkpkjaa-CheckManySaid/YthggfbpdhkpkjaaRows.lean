/-
  No cell of these rows narrows 'for every input' (looked for: loops, veiled, ifaces, maps, wideKeys, modest, calm, conditions, laid).
  DERIVED. THE GIVEN ROWS OF THIS SEAT. 11 by the template 'for every input the law returns true; each argument reads behind the call as it read before'; 0 by the template 'total and deterministic' (their statements: YthggfbpdhkpkjaaTotals.lean).
  GIVEN WITH THE SEED: the statements are not yours to turn. If you find one false, say at which input.
  Laid BY PROGRAM, IN A SANDBOX (cutbox-rows.mjs): the forced cells as the released guide's own fill.sh prints them over the translation a48ebca90e846e96… (all of the seat's roots in one cut). By AI agents, Wed Nov 11 2026. No macro, syntax, notation, axiom, sorry.
-/
import Derived.Test.YthggfbpdhkpkjaaChecked
import GoSem.Claim
import GoSem.ClaimJoined
import GoSem.ClaimMapViews
import Derived.JoinedTies
import Derived.KernelRfl
namespace Go.Proofs.Ythggfbpdhkpkjaa
/- THE CELL 'sum', in the pinned program and in every row, IS THE sha256 OF THE DUMP (.gsa) THAT YthggfbpdhkpkjaaProg.lean LOADS. Nothing in Lean hashes anything: it is a label: what it is worth is what the hold of that sum in a sandbox is worth. -/
noncomputable def Try.pinned : Pinned := { name := "ythggfbpdhkpkjaa", sum := "a48ebca90e846e9621544a7721c052be24d0cf5914adbcec3a0ce8e3cf67adcc", checked := Try.checked }
namespace Rows
def none {H : Type} : Left H := { results := [], args := [] }

/-- 'broadsheetlaw10.CheckBodies': WHATEVER THE INPUT: true; the input reads as it did. -/
def checkBodiesSpec : ChangeSpec := { name := "checkBodies", fn := fun _ => fun
  | [d1, d2, d3, d4] => { results := [.lit (.bool true)], args := [d1, d2, d3, d4] }
  | _ => none }
def checkBodiesRow : OpenClaim := { program := "ythggfbpdhkpkjaa", sum := "a48ebca90e846e9621544a7721c052be24d0cf5914adbcec3a0ce8e3cf67adcc", func := "broadsheet/broadsheetlaw10.CheckBodies", spec := "checkBodies", unfollowed := true, recurses := true, apart := false }
def CheckBodiesSaid : Prop := checkBodiesRow.holds Try.pinned (OpenSpec.ofChange checkBodiesSpec)

/-- ITS FALSE NEIGHBOUR: 'it returns false'. Refute it at one input. -/
def checkBodiesWrong : ChangeSpec := { name := "checkBodies", fn := fun _ => fun
  | [d1, d2, d3, d4] => { results := [.lit (.bool false)], args := [d1, d2, d3, d4] }
  | _ => none }
def CheckBodiesWrongFalsely : Prop := checkBodiesRow.holds Try.pinned (OpenSpec.ofChange checkBodiesWrong)

/-- 'broadsheetlaw10.CheckMany': WHATEVER THE INPUT: true; the input reads as it did. -/
def checkManySpec : ChangeSpec := { name := "checkMany", fn := fun _ => fun
  | [d1, d2] => { results := [.lit (.bool true)], args := [d1, d2] }
  | _ => none }
def checkManyRow : OpenClaim := { program := "ythggfbpdhkpkjaa", sum := "a48ebca90e846e9621544a7721c052be24d0cf5914adbcec3a0ce8e3cf67adcc", func := "broadsheet/broadsheetlaw10.CheckMany", spec := "checkMany", unfollowed := true, recurses := true, apart := false }
def CheckManySaid : Prop := checkManyRow.holds Try.pinned (OpenSpec.ofChange checkManySpec)

/-- ITS FALSE NEIGHBOUR: 'it returns false'. Refute it at one input. -/
def checkManyWrong : ChangeSpec := { name := "checkMany", fn := fun _ => fun
  | [d1, d2] => { results := [.lit (.bool false)], args := [d1, d2] }
  | _ => none }
def CheckManyWrongFalsely : Prop := checkManyRow.holds Try.pinned (OpenSpec.ofChange checkManyWrong)

/-- 'broadsheetlaw10.CheckBack': WHATEVER THE INPUT: true; the input reads as it did. -/
def checkBackSpec : ChangeSpec := { name := "checkBack", fn := fun _ => fun
  | [d1, d2, d3, d4, d5, d6, d7] => { results := [.lit (.bool true)], args := [d1, d2, d3, d4, d5, d6, d7] }
  | _ => none }
def checkBackRow : OpenClaim := { program := "ythggfbpdhkpkjaa", sum := "a48ebca90e846e9621544a7721c052be24d0cf5914adbcec3a0ce8e3cf67adcc", func := "broadsheet/broadsheetlaw10.CheckBack", spec := "checkBack", unfollowed := true, recurses := true, apart := false }
def CheckBackSaid : Prop := checkBackRow.holds Try.pinned (OpenSpec.ofChange checkBackSpec)

/-- ITS FALSE NEIGHBOUR: 'it returns false'. Refute it at one input. -/
def checkBackWrong : ChangeSpec := { name := "checkBack", fn := fun _ => fun
  | [d1, d2, d3, d4, d5, d6, d7] => { results := [.lit (.bool false)], args := [d1, d2, d3, d4, d5, d6, d7] }
  | _ => none }
def CheckBackWrongFalsely : Prop := checkBackRow.holds Try.pinned (OpenSpec.ofChange checkBackWrong)

/-- 'broadsheetlaw10.CheckNumbers': WHATEVER THE INPUT: true; the input reads as it did. -/
def checkNumbersSpec : ChangeSpec := { name := "checkNumbers", fn := fun _ => fun
  | [] => { results := [.lit (.bool true)], args := [] }
  | _ => none }
def checkNumbersRow : OpenClaim := { program := "ythggfbpdhkpkjaa", sum := "a48ebca90e846e9621544a7721c052be24d0cf5914adbcec3a0ce8e3cf67adcc", func := "broadsheet/broadsheetlaw10.CheckNumbers", spec := "checkNumbers", unfollowed := true, recurses := true, apart := false }
def CheckNumbersSaid : Prop := checkNumbersRow.holds Try.pinned (OpenSpec.ofChange checkNumbersSpec)

/-- ITS FALSE NEIGHBOUR: 'it returns false'. Refute it at one input. -/
def checkNumbersWrong : ChangeSpec := { name := "checkNumbers", fn := fun _ => fun
  | [] => { results := [.lit (.bool false)], args := [] }
  | _ => none }
def CheckNumbersWrongFalsely : Prop := checkNumbersRow.holds Try.pinned (OpenSpec.ofChange checkNumbersWrong)

/-- 'broadsheetlaw10.CheckTells': WHATEVER THE INPUT: true; the input reads as it did. -/
def checkTellsSpec : ChangeSpec := { name := "checkTells", fn := fun _ => fun
  | [d1, d2, d3, d4, d5, d6] => { results := [.lit (.bool true)], args := [d1, d2, d3, d4, d5, d6] }
  | _ => none }
def checkTellsRow : OpenClaim := { program := "ythggfbpdhkpkjaa", sum := "a48ebca90e846e9621544a7721c052be24d0cf5914adbcec3a0ce8e3cf67adcc", func := "broadsheet/broadsheetlaw10.CheckTells", spec := "checkTells", unfollowed := true, recurses := true, apart := false }
def CheckTellsSaid : Prop := checkTellsRow.holds Try.pinned (OpenSpec.ofChange checkTellsSpec)

/-- ITS FALSE NEIGHBOUR: 'it returns false'. Refute it at one input. -/
def checkTellsWrong : ChangeSpec := { name := "checkTells", fn := fun _ => fun
  | [d1, d2, d3, d4, d5, d6] => { results := [.lit (.bool false)], args := [d1, d2, d3, d4, d5, d6] }
  | _ => none }
def CheckTellsWrongFalsely : Prop := checkTellsRow.holds Try.pinned (OpenSpec.ofChange checkTellsWrong)

/-- 'broadsheetlaw11.CosignNumbers': WHATEVER THE INPUT: true; the input reads as it did. -/
def cosignNumbersSpec : ChangeSpec := { name := "cosignNumbers", fn := fun _ => fun
  | [] => { results := [.lit (.bool true)], args := [] }
  | _ => none }
def cosignNumbersRow : OpenClaim := { program := "ythggfbpdhkpkjaa", sum := "a48ebca90e846e9621544a7721c052be24d0cf5914adbcec3a0ce8e3cf67adcc", func := "broadsheet/broadsheetlaw11.CosignNumbers", spec := "cosignNumbers", unfollowed := true, recurses := true, apart := false }
def CosignNumbersSaid : Prop := cosignNumbersRow.holds Try.pinned (OpenSpec.ofChange cosignNumbersSpec)

/-- ITS FALSE NEIGHBOUR: 'it returns false'. Refute it at one input. -/
def cosignNumbersWrong : ChangeSpec := { name := "cosignNumbers", fn := fun _ => fun
  | [] => { results := [.lit (.bool false)], args := [] }
  | _ => none }
def CosignNumbersWrongFalsely : Prop := cosignNumbersRow.holds Try.pinned (OpenSpec.ofChange cosignNumbersWrong)

/-- 'broadsheetlaw11.CosignTells': WHATEVER THE INPUT: true; the input reads as it did. -/
def cosignTellsSpec : ChangeSpec := { name := "cosignTells", fn := fun _ => fun
  | [d1, d2, d3, d4, d5, d6] => { results := [.lit (.bool true)], args := [d1, d2, d3, d4, d5, d6] }
  | _ => none }
def cosignTellsRow : OpenClaim := { program := "ythggfbpdhkpkjaa", sum := "a48ebca90e846e9621544a7721c052be24d0cf5914adbcec3a0ce8e3cf67adcc", func := "broadsheet/broadsheetlaw11.CosignTells", spec := "cosignTells", unfollowed := true, recurses := true, apart := false }
def CosignTellsSaid : Prop := cosignTellsRow.holds Try.pinned (OpenSpec.ofChange cosignTellsSpec)

/-- ITS FALSE NEIGHBOUR: 'it returns false'. Refute it at one input. -/
def cosignTellsWrong : ChangeSpec := { name := "cosignTells", fn := fun _ => fun
  | [d1, d2, d3, d4, d5, d6] => { results := [.lit (.bool false)], args := [d1, d2, d3, d4, d5, d6] }
  | _ => none }
def CosignTellsWrongFalsely : Prop := cosignTellsRow.holds Try.pinned (OpenSpec.ofChange cosignTellsWrong)

/-- 'broadsheetlaw11.CosignCounts': WHATEVER THE INPUT: true; the input reads as it did. -/
def cosignCountsSpec : ChangeSpec := { name := "cosignCounts", fn := fun _ => fun
  | [d1, d2] => { results := [.lit (.bool true)], args := [d1, d2] }
  | _ => none }
def cosignCountsRow : OpenClaim := { program := "ythggfbpdhkpkjaa", sum := "a48ebca90e846e9621544a7721c052be24d0cf5914adbcec3a0ce8e3cf67adcc", func := "broadsheet/broadsheetlaw11.CosignCounts", spec := "cosignCounts", unfollowed := true, recurses := true, apart := false }
def CosignCountsSaid : Prop := cosignCountsRow.holds Try.pinned (OpenSpec.ofChange cosignCountsSpec)

/-- ITS FALSE NEIGHBOUR: 'it returns false'. Refute it at one input. -/
def cosignCountsWrong : ChangeSpec := { name := "cosignCounts", fn := fun _ => fun
  | [d1, d2] => { results := [.lit (.bool false)], args := [d1, d2] }
  | _ => none }
def CosignCountsWrongFalsely : Prop := cosignCountsRow.holds Try.pinned (OpenSpec.ofChange cosignCountsWrong)

/-- 'broadsheetlaw11.CosignPolicies': WHATEVER THE INPUT: true; the input reads as it did. -/
def cosignPoliciesSpec : ChangeSpec := { name := "cosignPolicies", fn := fun _ => fun
  | [d1, d2, d3, d4, d5] => { results := [.lit (.bool true)], args := [d1, d2, d3, d4, d5] }
  | _ => none }
def cosignPoliciesRow : OpenClaim := { program := "ythggfbpdhkpkjaa", sum := "a48ebca90e846e9621544a7721c052be24d0cf5914adbcec3a0ce8e3cf67adcc", func := "broadsheet/broadsheetlaw11.CosignPolicies", spec := "cosignPolicies", unfollowed := true, recurses := true, apart := false }
def CosignPoliciesSaid : Prop := cosignPoliciesRow.holds Try.pinned (OpenSpec.ofChange cosignPoliciesSpec)

/-- ITS FALSE NEIGHBOUR: 'it returns false'. Refute it at one input. -/
def cosignPoliciesWrong : ChangeSpec := { name := "cosignPolicies", fn := fun _ => fun
  | [d1, d2, d3, d4, d5] => { results := [.lit (.bool false)], args := [d1, d2, d3, d4, d5] }
  | _ => none }
def CosignPoliciesWrongFalsely : Prop := cosignPoliciesRow.holds Try.pinned (OpenSpec.ofChange cosignPoliciesWrong)

/-- 'broadsheetlaw11.CosignApart': WHATEVER THE INPUT: true; the input reads as it did. -/
def cosignApartSpec : ChangeSpec := { name := "cosignApart", fn := fun _ => fun
  | [d1, d2, d3] => { results := [.lit (.bool true)], args := [d1, d2, d3] }
  | _ => none }
def cosignApartRow : OpenClaim := { program := "ythggfbpdhkpkjaa", sum := "a48ebca90e846e9621544a7721c052be24d0cf5914adbcec3a0ce8e3cf67adcc", func := "broadsheet/broadsheetlaw11.CosignApart", spec := "cosignApart", unfollowed := true, recurses := true, apart := false }
def CosignApartSaid : Prop := cosignApartRow.holds Try.pinned (OpenSpec.ofChange cosignApartSpec)

/-- ITS FALSE NEIGHBOUR: 'it returns false'. Refute it at one input. -/
def cosignApartWrong : ChangeSpec := { name := "cosignApart", fn := fun _ => fun
  | [d1, d2, d3] => { results := [.lit (.bool false)], args := [d1, d2, d3] }
  | _ => none }
def CosignApartWrongFalsely : Prop := cosignApartRow.holds Try.pinned (OpenSpec.ofChange cosignApartWrong)

/-- 'broadsheetlaw11.CosignPuts': WHATEVER THE INPUT: true; the input reads as it did. -/
def cosignPutsSpec : ChangeSpec := { name := "cosignPuts", fn := fun _ => fun
  | [d1, d2, d3, d4, d5, d6, d7] => { results := [.lit (.bool true)], args := [d1, d2, d3, d4, d5, d6, d7] }
  | _ => none }
def cosignPutsRow : OpenClaim := { program := "ythggfbpdhkpkjaa", sum := "a48ebca90e846e9621544a7721c052be24d0cf5914adbcec3a0ce8e3cf67adcc", func := "broadsheet/broadsheetlaw11.CosignPuts", spec := "cosignPuts", unfollowed := true, recurses := true, apart := false }
def CosignPutsSaid : Prop := cosignPutsRow.holds Try.pinned (OpenSpec.ofChange cosignPutsSpec)

/-- ITS FALSE NEIGHBOUR: 'it returns false'. Refute it at one input. -/
def cosignPutsWrong : ChangeSpec := { name := "cosignPuts", fn := fun _ => fun
  | [d1, d2, d3, d4, d5, d6, d7] => { results := [.lit (.bool false)], args := [d1, d2, d3, d4, d5, d6, d7] }
  | _ => none }
def CosignPutsWrongFalsely : Prop := cosignPutsRow.holds Try.pinned (OpenSpec.ofChange cosignPutsWrong)

/- THE SECOND FORM. 'bulk': how many values and letters a reading holds, each counted each time it is reached (what is shared counts as often as it is met; a slice's spare places count too). A statement '..UptoSaid' is the law's where the arguments, and the package variables that the reading takes, are together of bulk at most 1048576: NARROWER than '..Said'. Prove '..Said' where nothing that the law and all that it calls make is longer than what came in: it says more and counts as full. Else prove '..UptoSaid'. A law counts once. -/
mutual
def uptoBulk {H : Type} : DataW H → Nat
  | .lit (.string bytes) => bytes.length + 1
  | .lit _ => 1
  | .nil => 1
  | .ptr d => uptoBulk d + 1
  | .slice elems spare => uptoBulkAll elems + uptoBulkAll spare + 1
  | .agg parts => uptoBulkAll parts + 1
  | .iface _ d => uptoBulk d + 1
  | .map entries => uptoBulkEntries entries + 1
  | .held _ => 1
def uptoBulkAll {H : Type} : List (DataW H) → Nat
  | [] => 0
  | d :: r => uptoBulk d + uptoBulkAll r
def uptoBulkEntries {H : Type} : List (Lit × DataW H) → Nat
  | [] => 0
  | x :: r => uptoBulkEntry x + uptoBulkEntries r
def uptoBulkEntry {H : Type} : Lit × DataW H → Nat
  | (.string bytes, d) => bytes.length + uptoBulk d + 1
  | (_, d) => uptoBulk d + 1
 end
def uptoSmall : (H : Type) → List (DataW H) → Bool := fun _ ds => decide (uptoBulkAll ds ≤ 1048576)
def OpenSpec.upto (s : _root_.Go.ChangeSpec) : _root_.Go.OpenSpec := { _root_.Go.OpenSpec.ofChange s with cond := some uptoSmall }

/-- 'broadsheetlaw10.CheckBodies', WHERE WHAT IT READS IS OF BULK AT MOST 1048576: true; the input reads as it did. -/
def checkBodiesUptoRow : OpenClaim := { program := "ythggfbpdhkpkjaa", sum := "a48ebca90e846e9621544a7721c052be24d0cf5914adbcec3a0ce8e3cf67adcc", func := "broadsheet/broadsheetlaw10.CheckBodies", spec := "checkBodies", unfollowed := true, recurses := true, apart := false, narrowed := true }
def CheckBodiesUptoSaid : Prop := checkBodiesUptoRow.holds Try.pinned (OpenSpec.upto checkBodiesSpec)

/-- 'broadsheetlaw10.CheckMany', WHERE WHAT IT READS IS OF BULK AT MOST 1048576: true; the input reads as it did. -/
def checkManyUptoRow : OpenClaim := { program := "ythggfbpdhkpkjaa", sum := "a48ebca90e846e9621544a7721c052be24d0cf5914adbcec3a0ce8e3cf67adcc", func := "broadsheet/broadsheetlaw10.CheckMany", spec := "checkMany", unfollowed := true, recurses := true, apart := false, narrowed := true }
def CheckManyUptoSaid : Prop := checkManyUptoRow.holds Try.pinned (OpenSpec.upto checkManySpec)

/-- 'broadsheetlaw10.CheckBack', WHERE WHAT IT READS IS OF BULK AT MOST 1048576: true; the input reads as it did. -/
def checkBackUptoRow : OpenClaim := { program := "ythggfbpdhkpkjaa", sum := "a48ebca90e846e9621544a7721c052be24d0cf5914adbcec3a0ce8e3cf67adcc", func := "broadsheet/broadsheetlaw10.CheckBack", spec := "checkBack", unfollowed := true, recurses := true, apart := false, narrowed := true }
def CheckBackUptoSaid : Prop := checkBackUptoRow.holds Try.pinned (OpenSpec.upto checkBackSpec)

/-- 'broadsheetlaw10.CheckNumbers', WHERE WHAT IT READS IS OF BULK AT MOST 1048576: true; the input reads as it did. -/
def checkNumbersUptoRow : OpenClaim := { program := "ythggfbpdhkpkjaa", sum := "a48ebca90e846e9621544a7721c052be24d0cf5914adbcec3a0ce8e3cf67adcc", func := "broadsheet/broadsheetlaw10.CheckNumbers", spec := "checkNumbers", unfollowed := true, recurses := true, apart := false, narrowed := true }
def CheckNumbersUptoSaid : Prop := checkNumbersUptoRow.holds Try.pinned (OpenSpec.upto checkNumbersSpec)

/-- 'broadsheetlaw10.CheckTells', WHERE WHAT IT READS IS OF BULK AT MOST 1048576: true; the input reads as it did. -/
def checkTellsUptoRow : OpenClaim := { program := "ythggfbpdhkpkjaa", sum := "a48ebca90e846e9621544a7721c052be24d0cf5914adbcec3a0ce8e3cf67adcc", func := "broadsheet/broadsheetlaw10.CheckTells", spec := "checkTells", unfollowed := true, recurses := true, apart := false, narrowed := true }
def CheckTellsUptoSaid : Prop := checkTellsUptoRow.holds Try.pinned (OpenSpec.upto checkTellsSpec)

/-- 'broadsheetlaw11.CosignNumbers', WHERE WHAT IT READS IS OF BULK AT MOST 1048576: true; the input reads as it did. -/
def cosignNumbersUptoRow : OpenClaim := { program := "ythggfbpdhkpkjaa", sum := "a48ebca90e846e9621544a7721c052be24d0cf5914adbcec3a0ce8e3cf67adcc", func := "broadsheet/broadsheetlaw11.CosignNumbers", spec := "cosignNumbers", unfollowed := true, recurses := true, apart := false, narrowed := true }
def CosignNumbersUptoSaid : Prop := cosignNumbersUptoRow.holds Try.pinned (OpenSpec.upto cosignNumbersSpec)

/-- 'broadsheetlaw11.CosignTells', WHERE WHAT IT READS IS OF BULK AT MOST 1048576: true; the input reads as it did. -/
def cosignTellsUptoRow : OpenClaim := { program := "ythggfbpdhkpkjaa", sum := "a48ebca90e846e9621544a7721c052be24d0cf5914adbcec3a0ce8e3cf67adcc", func := "broadsheet/broadsheetlaw11.CosignTells", spec := "cosignTells", unfollowed := true, recurses := true, apart := false, narrowed := true }
def CosignTellsUptoSaid : Prop := cosignTellsUptoRow.holds Try.pinned (OpenSpec.upto cosignTellsSpec)

/-- 'broadsheetlaw11.CosignCounts', WHERE WHAT IT READS IS OF BULK AT MOST 1048576: true; the input reads as it did. -/
def cosignCountsUptoRow : OpenClaim := { program := "ythggfbpdhkpkjaa", sum := "a48ebca90e846e9621544a7721c052be24d0cf5914adbcec3a0ce8e3cf67adcc", func := "broadsheet/broadsheetlaw11.CosignCounts", spec := "cosignCounts", unfollowed := true, recurses := true, apart := false, narrowed := true }
def CosignCountsUptoSaid : Prop := cosignCountsUptoRow.holds Try.pinned (OpenSpec.upto cosignCountsSpec)

/-- 'broadsheetlaw11.CosignPolicies', WHERE WHAT IT READS IS OF BULK AT MOST 1048576: true; the input reads as it did. -/
def cosignPoliciesUptoRow : OpenClaim := { program := "ythggfbpdhkpkjaa", sum := "a48ebca90e846e9621544a7721c052be24d0cf5914adbcec3a0ce8e3cf67adcc", func := "broadsheet/broadsheetlaw11.CosignPolicies", spec := "cosignPolicies", unfollowed := true, recurses := true, apart := false, narrowed := true }
def CosignPoliciesUptoSaid : Prop := cosignPoliciesUptoRow.holds Try.pinned (OpenSpec.upto cosignPoliciesSpec)

/-- 'broadsheetlaw11.CosignApart', WHERE WHAT IT READS IS OF BULK AT MOST 1048576: true; the input reads as it did. -/
def cosignApartUptoRow : OpenClaim := { program := "ythggfbpdhkpkjaa", sum := "a48ebca90e846e9621544a7721c052be24d0cf5914adbcec3a0ce8e3cf67adcc", func := "broadsheet/broadsheetlaw11.CosignApart", spec := "cosignApart", unfollowed := true, recurses := true, apart := false, narrowed := true }
def CosignApartUptoSaid : Prop := cosignApartUptoRow.holds Try.pinned (OpenSpec.upto cosignApartSpec)

/-- 'broadsheetlaw11.CosignPuts', WHERE WHAT IT READS IS OF BULK AT MOST 1048576: true; the input reads as it did. -/
def cosignPutsUptoRow : OpenClaim := { program := "ythggfbpdhkpkjaa", sum := "a48ebca90e846e9621544a7721c052be24d0cf5914adbcec3a0ce8e3cf67adcc", func := "broadsheet/broadsheetlaw11.CosignPuts", spec := "cosignPuts", unfollowed := true, recurses := true, apart := false, narrowed := true }
def CosignPutsUptoSaid : Prop := cosignPutsUptoRow.holds Try.pinned (OpenSpec.upto cosignPutsSpec)

end Rows
end Go.Proofs.Ythggfbpdhkpkjaa

/-
  Manifests in plain Lean: what may be one, how it is written, how it is read.
-/
import Derived.Test.YtmgnigofilkfmabWire4
namespace Go.Proofs.Ytmgnigofilkfmab
set_option maxRecDepth 100000
structure Man where
  name : List UInt8
  ver : UInt32
  fw : List UInt8
  notes : List UInt8
def letter (c : UInt8) : Bool := decide (97 ≤ u8i c) && decide (u8i c ≤ 122)
def nameOK (s : List UInt8) : Bool := decide (1 ≤ s.length) && decide (s.length ≤ 20) && s.all letter
def rightM (m : Man) : Bool := nameOK m.name && decide (0 < u32i m.ver) && decide (m.fw.length = 32) && decide (m.notes.length ≤ 64)
def encM (m : Man) : List UInt8 := [77] ++ (be2 m.name.length ++ m.name) ++ beBytes m.ver 4 ++ m.fw ++ (be2 m.notes.length ++ m.notes)
/-- the reader's steps: mark, name, version, firmware, notes, what is left -/
structure Dec where
  first : UInt8
  man : Man
  left : List UInt8
  bad : Bool
def readM (b : List UInt8) : Dec :=
  let t1 := rtake b false 1
  let t2 := rbytes t1.2.1 t1.2.2 20
  let t3 := rtake t2.2.1 t2.2.2 4
  let t4 := rtake t3.2.1 t3.2.2 32
  let t5 := rbytes t4.2.1 t4.2.2 64
  { first := (beNum t1.1).toUInt8, man := ⟨t2.1, beNum t3.1, t4.1, t5.1⟩, left := t5.2.1, bad := t5.2.2 }
def decOK (b : List UInt8) : Bool := decide ((readM b).first = 77) && (!(readM b).bad && (readM b).left.isEmpty) && rightM (readM b).man
end Go.Proofs.Ytmgnigofilkfmab

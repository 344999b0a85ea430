/-
  What the frames of the statements hand on of a manifest that came in, in the words of the walks. Plain theorems.
-/
import Derived.Lib.SmallJoins
import Derived.ChangeSlices
import Derived.ChangeArms
import Derived.Test.YtmgnigofilkfmabFrameR
import Derived.Test.YtmgnigofilkfmabMan
namespace Go.Proofs.Ytmgnigofilkfmab
set_option maxRecDepth 100000
open Go Go.RowKit Go.ChangeShapes Go.WideShapes Go.Deep
variable {H : Type} {enc : TypeId × Value → H} {w : World} {base : Nat} {held : Bool}
theorem str_of (s : ByteArray) : ∃ L : List UInt8, s = str L := ⟨s.data.toList, by cases s; simp [str]⟩
theorem open_man {r : Reach} {b0 : Nat} {v : Value} {d : DataW H} {p : List MemPlace} (hv : Value.okWide Try.prog w r b0 27 v) (h : DataW.Trod enc Try.prog w base (fun _ => true) held 27 v d p) :
    ∃ (m : Man) (F N : Option Addr) (nf cf nn cn : Nat), v = manV m F nf cf N nn cn ∧ m.name.length ≤ maxLen ∧ RB w F nf cf m.fw ∧ RB w N nn cn m.notes := by
  obtain ⟨v0, v1, v2, v3, y0, y1, y2, y3, n, rfl, _, _, h0, h1, h2, h3⟩ := Go.Joins.open_agg4 Try.underlying27 (by kernel_rfl) (by kernel_rfl) hv h
  obtain ⟨s, e0, _, hs⟩ := DataW.trod_string Try.underlying9 h0
  obtain ⟨i, e1, _, hi⟩ := DataW.trod_int Try.underlying25 h1
  obtain ⟨x, rfl⟩ := wf_u32 hi
  obtain ⟨L, rfl⟩ := str_of s
  obtain ⟨F, nf, cf, LF, e2, r2⟩ := row_arg h2
  obtain ⟨N, nn, cn, LN, e3, r3⟩ := row_arg h3
  injection e0 with e0 _
  injection e1 with e1 _
  injection e2 with e2 _
  injection e3 with e3 _
  subst e0 e1 e2 e3
  rw [str_size] at hs
  exact ⟨⟨L, x, LF, LN⟩, F, N, nf, cf, nn, cn, rfl, hs, r2, r3⟩
end Go.Proofs.Ytmgnigofilkfmab

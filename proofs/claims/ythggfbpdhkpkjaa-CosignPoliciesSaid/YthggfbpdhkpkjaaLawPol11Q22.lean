/-
  check.Get, check.Decode, walked.
-/
import Derived.Test.YthggfbpdhkpkjaaLawPol11Q21
import Derived.Test.YthggfbpdhkpkjaaLawPol11Q20
import Derived.Test.YthggfbpdhkpkjaaLawPol11Q12
namespace Go.Proofs.Ythggfbpdhkpkjaa
set_option maxRecDepth 100000
open Go Go.RowKit
/-- what is read of a reader's bytes as a signed checkpoint -/
def gS1 (L : List UInt8) (bad : Bool) : List UInt8 × Bool := (rtake L bad 4).2
def gR (L : List UInt8) (bad : Bool) : List UInt8 := (rtake (gS1 L bad).1 (gS1 L bad).2 32).1
theorem RdrS.away {w w' : World} {base q : Nat} {L : List UInt8} {bad : Bool} (h : RdrS w base q L bad) {k : Nat} {t : TypeId} {cs : Array Value} (hb : Blk w k t cs) (ht : t ≠ 115) (hno : ∀ (i : Nat) (x : Int), cs[i]? ≠ some (.int .u8 x)) (g : w.grownBy w' (some k)) : RdrS w' base q L bad := by
  obtain ⟨A', n', c', hn, hR⟩ := h
  have hbA : 0 < n' → blk A' ≠ some k := hR.rb.apart5 hb hno
  refine ⟨A', n', c', hn, hR.blk.grown g (fun e => ?_), hR.rb.grown g hbA, hR.ne, hR.base, fun h0 k' hk => ?_⟩
  · injection e with e
    subst e
    have h1 := hR.blk
    unfold Blk at h1 hb
    rw [h1] at hb
    injection hb with hb
    injection hb with _ hb
    exact ht hb.symm
  · obtain ⟨cs', fr, h1⟩ := hR.ty h0 k' hk
    exact ⟨cs', fr, (g.block k' (Array.getElem?_eq_some_iff.1 h1).1 (fun e => hbA h0 (by rw [hk, e]))).trans h1⟩
end Go.Proofs.Ythggfbpdhkpkjaa

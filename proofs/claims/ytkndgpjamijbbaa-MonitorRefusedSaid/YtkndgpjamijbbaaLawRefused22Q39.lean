/-
  What the frames of the statements hand on, in the words of the walks. Plain theorems. What the frames of the statements hand on of bytes that came in, in the words of the walks. Plain theorems.
-/
import Derived.Test.YtkndgpjamijbbaaLawRefused22Q4
import Derived.ChangeSlices
import Derived.ChangeArms
namespace Go.Proofs.Ytkndgpjamijbbaa
set_option maxRecDepth 100000
open Go Go.RowKit
theorem wf_i64 {n : Int} (h : (Lit.int .i64 n).wf = true) : -9223372036854775808 ≤ n ∧ n ≤ 9223372036854775807 := by
  simp only [Lit.wf, Bool.and_eq_true, decide_eq_true_eq] at h
  have e1 : IntKind.i64.min = -9223372036854775808 := by rfl
  have e2 : IntKind.i64.max = 9223372036854775807 := by rfl
  rw [e1, e2] at h
  exact h
theorem wf_u8 {n : Int} (h : (Lit.int .u8 n).wf = true) : u8i (UInt8.ofNat n.toNat) = n := by
  simp only [Lit.wf, Bool.and_eq_true, decide_eq_true_eq] at h
  have e1 : IntKind.u8.min = 0 := by rfl
  have e2 : IntKind.u8.max = 255 := by rfl
  rw [e1, e2] at h
  unfold u8i
  rw [UInt8.toNat_ofNat']
  omega
/-- a row of numbers that came in, as bytes that are read -/
theorem rb_of_row {w : World} {a : Option Addr} {len cap : Nat} {zs : List Int}
    (h : (a = none ∧ len = 0 ∧ cap = 0 ∧ zs = []) ∨ ∃ x, a = some x ∧ len ≤ cap ∧ cap ≤ maxLen ∧ zs.length = cap ∧ (∀ i, i < zs.length → w.cell? (x.add i) = some (.int .u8 (zs.getD i 0))) ∧ ∀ n ∈ zs, (Lit.int .u8 n).wf = true) :
    RB w a len cap ((zs.take len).map fun z => UInt8.ofNat z.toNat) := by
  rcases h with ⟨rfl, rfl, rfl, rfl⟩ | ⟨x, rfl, h1, h2, h3, h4, h5⟩
  · exact RB.nil_ w
  · refine ⟨by simp; omega, h1, h2, fun _ => ⟨x, rfl, fun j hj => ?_⟩⟩
    rw [h4 j (by omega)]
    have hj3 : j < zs.length := by omega
    have e : zs.getD j 0 = zs[j] := by simp [hj3]
    have e2 : ub ((zs.take len).map fun z => UInt8.ofNat z.toNat) j = UInt8.ofNat (zs[j]).toNat := by simp [ub, hj3, hj]
    rw [e, e2, wf_u8 (h5 _ (List.getElem_mem hj3))]
end Go.Proofs.Ytkndgpjamijbbaa
namespace Go.Proofs.Ytkndgpjamijbbaa
set_option maxRecDepth 100000
open Go Go.RowKit Go.ChangeShapes Go.WideShapes
variable {H : Type} {enc : TypeId × Value → H} {w : World} {base : Nat} {held : Bool}
theorem row_arg {fuel : Nat} {cs : List Value} {x : DataW H × List MemPlace} (h : DataW.trod enc Try.prog w base (fun _ => true) held fuel 22 cs = some x) :
    ∃ (A : Option Addr) (n c : Nat) (L : List UInt8), cs = [.slice A n c] ∧ RB w A n c L := by
  rcases open_ints Try.underlying22 Try.underlying5 (by kernel_rfl) h with ⟨hcs, _⟩ | ⟨x, l, c, zs, hcs, _, hl, hm, hz, _, hcell, hwz⟩
  · exact ⟨none, 0, 0, [], hcs, RB.nil_ w⟩
  · exact ⟨some x, l, c, _, hcs, rb_of_row (.inr ⟨x, rfl, hl, hm, by simpa using hz, hcell, hwz⟩)⟩
end Go.Proofs.Ytkndgpjamijbbaa

/-
  What the frames of the statements hand on, in the words of the walks. Plain theorems.
-/
import Derived.Test.YtmgnigofilkfmaaMore
namespace Go.Proofs.Ytmgnigofilkfmaa
set_option maxRecDepth 100000
open Go Go.RowKit
theorem wf_i64 {n : Int} (h : (Lit.int .i64 n).wf = true) : -9223372036854775808 ≤ n ∧ n ≤ 9223372036854775807 := by
  simp only [Lit.wf, Bool.and_eq_true, decide_eq_true_eq] at h
  have e1 : IntKind.i64.min = -9223372036854775808 := by rfl
  have e2 : IntKind.i64.max = 9223372036854775807 := by rfl
  rw [e1, e2] at h
  exact h
theorem wf_u8 {n : Int} (h : (Lit.int .u8 n).wf = true) : u8i (UInt8.ofNat n.toNat) = n := by
  simp only [Lit.wf, Bool.and_eq_true, decide_eq_true_eq] at h
  have e1 : IntKind.u8.min = 0 := by rfl
  have e2 : IntKind.u8.max = 255 := by rfl
  rw [e1, e2] at h
  unfold u8i
  rw [UInt8.toNat_ofNat']
  omega
theorem wf_u32 {n : Int} (h : (Lit.int .u32 n).wf = true) : ∃ x : UInt32, n = u32i x := by
  simp only [Lit.wf, Bool.and_eq_true, decide_eq_true_eq] at h
  have e1 : IntKind.u32.min = 0 := by rfl
  have e2 : IntKind.u32.max = 4294967295 := by rfl
  rw [e1, e2] at h
  refine ⟨UInt32.ofNat n.toNat, ?_⟩
  unfold u32i
  rw [UInt32.toNat_ofNat']
  omega
/-- a row of numbers that came in, as bytes that are read -/
theorem rb_of_row {w : World} {a : Option Addr} {len cap : Nat} {zs : List Int}
    (h : (a = none ∧ len = 0 ∧ cap = 0 ∧ zs = []) ∨ ∃ x, a = some x ∧ len ≤ cap ∧ cap ≤ maxLen ∧ zs.length = cap ∧ (∀ i, i < zs.length → w.cell? (x.add i) = some (.int .u8 (zs.getD i 0))) ∧ ∀ n ∈ zs, (Lit.int .u8 n).wf = true) :
    RB w a len cap ((zs.take len).map fun z => UInt8.ofNat z.toNat) := by
  rcases h with ⟨rfl, rfl, rfl, rfl⟩ | ⟨x, rfl, h1, h2, h3, h4, h5⟩
  · exact RB.nil_ w
  · refine ⟨by simp; omega, h1, h2, fun _ => ⟨x, rfl, fun j hj => ?_⟩⟩
    rw [h4 j (by omega)]
    have hj3 : j < zs.length := by omega
    have e : zs.getD j 0 = zs[j] := by simp [hj3]
    have e2 : ub ((zs.take len).map fun z => UInt8.ofNat z.toNat) j = UInt8.ofNat (zs[j]).toNat := by simp [ub, hj3, hj]
    rw [e, e2, wf_u8 (h5 _ (List.getElem_mem hj3))]
end Go.Proofs.Ytmgnigofilkfmaa

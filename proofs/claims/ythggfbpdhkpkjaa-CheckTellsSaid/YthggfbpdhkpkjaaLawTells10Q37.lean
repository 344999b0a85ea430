/-
  law10.CheckBodies, walked.
-/
import Derived.Test.YthggfbpdhkpkjaaLawTells10Q36
import Derived.Test.YthggfbpdhkpkjaaLawTells10Q11
namespace Go.Proofs.Ythggfbpdhkpkjaa
set_option maxRecDepth 100000
open Go Go.RowKit
theorem RB.cut_ {w : World} {A : Option Addr} {n c : Nat} {L : List UInt8} (h : RB w A n c L) (k : Nat) : RB w A (min n k) c (L.take k) := by
  have h1 := h.cut (i := 0) (j := min n k) (c' := c) (A' := A) (by omega) (by omega) rfl (fun _ => by cases A <;> simp [Addr.add])
  have h2 := h.len
  have e : L.take (min n k) = L.take k := by
    rw [← h2]
    rcases Nat.le_total L.length k with h3 | h3
    · rw [Nat.min_eq_left h3, List.take_of_length_le h3, List.take_of_length_le (Nat.le_refl _)]
    · rw [Nat.min_eq_right h3]
  simpa [e] using h1
theorem cut_z (A : Option Addr) (n c k : Nat) (L : List UInt8) (z : Int) (hz : z = (k : Int)) (w : World) (hr : RB w A n c L) (hk : k ≤ 140737488355328) :
    Calls Try.prog 14 #[.slice A n c, .int .i64 z] w fun e w' => (e = .returned (.slice A (min n k) c) ∧ RB w A (min n k) c (L.take k)) ∧ w = w' := by
  subst hz
  exact cut_any A n c k L w hr hk
theorem rightC_of {x : Int} {R : List UInt8} (h0 : 0 ≤ x) (h1 : x ≤ 256) (h2 : R.length = 32) : rightC x R = true := by
  unfold rightC
  simp [h0, h1, h2]
end Go.Proofs.Ythggfbpdhkpkjaa

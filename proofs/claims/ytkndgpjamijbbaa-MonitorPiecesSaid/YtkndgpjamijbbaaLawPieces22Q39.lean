/-
  Rows of ints that came in. Plain theorems.
-/
import Derived.ChangeSlices
import Derived.ChangeArms
import Derived.Test.YtkndgpjamijbbaaLawPieces22Q38
namespace Go.Proofs.Ytkndgpjamijbbaa
set_option maxRecDepth 100000
open Go Go.RowKit Go.ChangeShapes Go.WideShapes
/-- a slice of ints reads as zs -/
structure RI (w : World) (A : Option Addr) (n c : Nat) (zs : List Int) : Prop where
  room : n ≤ c
  cap : c ≤ maxLen
  cells : 0 < n → ∃ ad, A = some ad ∧ ∀ j, j < n → w.cell? (ad.add j) = some (.int .i64 (zs.getD j 0)) ∧ -9223372036854775808 ≤ zs.getD j 0 ∧ zs.getD j 0 ≤ 9223372036854775807
theorem RI.ext {w w' : World} {A : Option Addr} {n c : Nat} {zs : List Int} (h : RI w A n c zs) (e : Ext w w') : RI w' A n c zs :=
  ⟨h.room, h.cap, fun hn => by
    obtain ⟨ad, h1, h2⟩ := h.cells hn
    exact ⟨ad, h1, fun j hj => ⟨e.cell (h2 j hj).1, (h2 j hj).2⟩⟩⟩
variable {H : Type} {enc : TypeId × Value → H} {w : World} {base : Nat} {held : Bool}
theorem ints_arg {fuel : Nat} {cs : List Value} {x : DataW H × List MemPlace} (h : DataW.trod enc Try.prog w base (fun _ => true) held fuel 49 cs = some x) :
    ∃ (A : Option Addr) (n c : Nat) (zs : List Int), cs = [.slice A n c] ∧ RI w A n c zs := by
  rcases open_ints Try.underlying49 Try.underlying3 (by kernel_rfl) h with ⟨hcs, _⟩ | ⟨x, l, c, zs, hcs, _, hl, hm, hz, _, hcell, hwz⟩
  · exact ⟨none, 0, 0, [], hcs, ⟨Nat.le_refl _, Nat.zero_le _, fun h => absurd h (Nat.lt_irrefl _)⟩⟩
  · have h2 : zs.length = c := by simpa using hz
    refine ⟨some x, l, c, zs, hcs, ⟨hl, hm, fun _ => ⟨x, rfl, fun j hj => ?_⟩⟩⟩
    have hj2 : j < zs.length := by omega
    have e : zs.getD j 0 = zs[j] := by simp [hj2]
    refine ⟨hcell j hj2, ?_⟩
    rw [e]
    exact wf_i64 (hwz _ (List.getElem_mem hj2))
end Go.Proofs.Ytkndgpjamijbbaa

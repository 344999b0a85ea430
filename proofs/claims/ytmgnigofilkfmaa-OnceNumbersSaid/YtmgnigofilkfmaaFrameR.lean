/-
  What the frames of the statements hand on of bytes that came in, in the words of the walks. Plain theorems.
-/
import Derived.ChangeSlices
import Derived.ChangeArms
import Derived.Test.YtmgnigofilkfmaaFrame
namespace Go.Proofs.Ytmgnigofilkfmaa
set_option maxRecDepth 100000
open Go Go.RowKit Go.ChangeShapes Go.WideShapes
variable {H : Type} {enc : TypeId × Value → H} {w : World} {base : Nat} {held : Bool}
theorem row_arg {fuel : Nat} {cs : List Value} {x : DataW H × List MemPlace} (h : DataW.trod enc Try.prog w base (fun _ => true) held fuel 22 cs = some x) :
    ∃ (A : Option Addr) (n c : Nat) (L : List UInt8), cs = [.slice A n c] ∧ RB w A n c L := by
  rcases open_ints Try.underlying22 Try.underlying5 (by kernel_rfl) h with ⟨hcs, _⟩ | ⟨x, l, c, zs, hcs, _, hl, hm, hz, _, hcell, hwz⟩
  · exact ⟨none, 0, 0, [], hcs, RB.nil_ w⟩
  · exact ⟨some x, l, c, _, hcs, rb_of_row (.inr ⟨x, rfl, hl, hm, by simpa using hz, hcell, hwz⟩)⟩
theorem row_arg' {fuel : Nat} {cs : List Value} {x : DataW H × List MemPlace} (h : DataW.trod enc Try.prog w base (fun _ => true) held fuel 22 cs = some x) :
    ∃ (A : Option Addr) (n c : Nat) (L : List UInt8), cs = [.slice A n c] ∧ RB w A n c L ∧ (n = 0 ∨ ∃ e s, x.1 = .slice e s ∧ n ≤ e.length + s.length) := by
  rcases open_ints Try.underlying22 Try.underlying5 (by kernel_rfl) h with ⟨hcs, _⟩ | ⟨x, l, c, zs, hcs, _, hl, hm, hz, hx, hcell, hwz⟩
  · exact ⟨none, 0, 0, [], hcs, RB.nil_ w, .inl rfl⟩
  · refine ⟨some x, l, c, _, hcs, rb_of_row (.inr ⟨x, rfl, hl, hm, by simpa using hz, hcell, hwz⟩), .inr ⟨_, _, by rw [hx], ?_⟩⟩
    have h2 : zs.length = c := by simpa using hz
    simp only [lits, List.length_map, List.length_take, List.length_drop]
    omega
theorem bytes_u8 : Try.prog.bytesOf 5 = 1 := by kernel_rfl
end Go.Proofs.Ytmgnigofilkfmaa

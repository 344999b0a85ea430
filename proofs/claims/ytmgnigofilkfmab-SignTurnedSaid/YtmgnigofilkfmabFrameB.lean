/-
  A slice of byte slices that came in, in the words of the walks. Plain theorems.
-/
import Derived.Test.YtmgnigofilkfmabFrameR
import Derived.Test.YtmgnigofilkfmabLists
namespace Go.Proofs.Ytmgnigofilkfmab
set_option maxRecDepth 100000
open Go Go.RowKit Go.ChangeShapes Go.WideShapes
variable {H : Type} {enc : TypeId × Value → H} {w : World} {base : Nat} {held : Bool}
theorem rows_arg {fuel : Nat} {cs : List Value} {x : DataW H × List MemPlace} (h : DataW.trod enc Try.prog w base (fun _ => true) held fuel 50 cs = some x) :
    ∃ (A : Option Addr) (n c : Nat) (Ls : List (List UInt8)), cs = [.slice A n c] ∧ RBB w A n c Ls := by
  have h1 : Try.prog.cellsOf 22 = 1 := by kernel_rfl
  rcases DataW.trod_slice Try.underlying50 h with ⟨hcs, _⟩ | ⟨a, len, cap, elems, rest, n, _, rfl, rfl, hb, hl, hm, hlen, hel, hsp, hns⟩
  · exact ⟨none, 0, 0, [], hcs, RBB.nil_ w⟩
  · have each : ∀ i, i < len → ∃ L B m d, w.cell? (a.add i) = some (.slice B m d) ∧ RB w B m d L := by
      intro i hi
      have hy := hel i hi
      rw [h1, Nat.mul_one, List.getElem?_eq_getElem (by omega), Option.bind_eq_some_iff] at hy
      obtain ⟨cs', hcs, hy'⟩ := hy
      obtain ⟨B, m, d, L, rfl, r⟩ := row_arg hy'
      exact ⟨L, B, m, d, cell_of_cells?_one hcs, r⟩
    have pick : ∃ f : Nat → List UInt8, ∀ i, i < len → ∃ B m d, w.cell? (a.add i) = some (.slice B m d) ∧ RB w B m d (f i) :=
      ⟨fun i => if h : i < len then (each i h).choose else [], fun i hi => by
        have e : (if h : i < len then (each i h).choose else []) = (each i hi).choose := dif_pos hi
        show ∃ B m d, w.cell? (a.add i) = some (.slice B m d) ∧ RB w B m d (if h : i < len then (each i h).choose else [])
        rw [e]
        exact (each i hi).choose_spec⟩
    obtain ⟨f, hf⟩ := pick
    refine ⟨some a, len, cap, (List.range len).map f, rfl, ⟨by simp, hl, hm, fun _ => ⟨a, rfl, fun j hj => ?_⟩⟩⟩
    have e : lb ((List.range len).map f) j = f j := by simp [lb, hj]
    rw [e]
    exact hf j hj
end Go.Proofs.Ytmgnigofilkfmab

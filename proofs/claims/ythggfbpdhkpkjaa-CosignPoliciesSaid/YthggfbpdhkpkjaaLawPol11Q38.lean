/-
  keep.Few, walked; a slice is stored in a row of the call's own.
-/
import Derived.Test.YthggfbpdhkpkjaaLawPol11Q15
namespace Go.Proofs.Ythggfbpdhkpkjaa
set_option maxRecDepth 100000
open Go Go.RowKit
theorem OBC.store {w a : World} {base n c g z y : Nat} {E : Option Addr} {Ls : List (List UInt8)} {Y : List UInt8} (h : OBC w base (some ⟨g, 0, none⟩) n c Ls) (hE : RB w E z y Y) (hne : 0 < z → blk E ≠ some g) (i : Nat) (hi : i < n) (ha : Ext a w) (hab : a.heap.size ≤ base) :
    OBC (w.setCell ⟨g, i, none⟩ (.slice E z y)) base (some ⟨g, 0, none⟩) n c (Ls.set i Y) ∧ Ext a (w.setCell ⟨g, i, none⟩ (.slice E z y)) := by
  have hlt := h.lt (k := g) rfl
  obtain ⟨vs, h1, h2, h3⟩ := h
  have hvl : vs.length = n := by have := h1.1; omega
  have s := World.ownsRow.stored h1 i (.slice E z y)
  refine ⟨⟨vs.set i (.slice E z y), s.1, by simp [h2], fun j hj => ?_⟩, ha.then_grown s.2 (by intro k hk; cases hk; omega)⟩
  rw [lb_set (by omega)]
  by_cases hji : j = i
  · subst hji
    rw [if_pos rfl]
    exact ⟨E, z, y, by simp [hvl, hj], hE.grown s.2 hne, hne⟩
  · rw [if_neg hji]
    obtain ⟨B, m, d, h4, h5, h6⟩ := h3 j hj
    exact ⟨B, m, d, by rw [List.getElem?_set_ne (Ne.symm hji)]; exact h4, h5.grown s.2 h6, h6⟩
end Go.Proofs.Ythggfbpdhkpkjaa

/-
  Rows of the call's own: a byte is stored. Plain theorems.
-/
import Derived.Test.YtmgnigofilkfmaaCopy
import Derived.Laws.OwnMore
namespace Go.Proofs.Ytmgnigofilkfmaa
set_option maxRecDepth 100000
open Go Go.RowKit
theorem OB.plain {w : World} {base n c : Nat} {ad : Addr} {L : List UInt8} (h : OB w base (some ad) n c L) : ∃ g, ad = ⟨g, 0, none⟩ := by
  rcases h.2 with ⟨e, _⟩ | ⟨g', cap, cur, e, _⟩
  · cases e
  · injection e with e1 e2 e3
    injection e1 with e1
    exact ⟨g', e1⟩
theorem OB.set {w : World} {base n c g : Nat} {L : List UInt8} (h : OB w base (some ⟨g, 0, none⟩) n c L) (i : Nat) (b : UInt8) :
    OB (w.setCell ⟨g, i, none⟩ (.int .u8 (u8i b))) base (some ⟨g, 0, none⟩) n c (L.set i b) ∧ w.grownBy (w.setCell ⟨g, i, none⟩ (.int .u8 (u8i b))) (some g) := by
  have h2 := World.ownsRow.stored h i (.int .u8 (u8i b))
  have e : bv (L.set i b) = (bv L).set i (.int .u8 (u8i b)) := by simp [bv, List.map_set]
  unfold OB
  rw [e]
  exact h2
theorem OB.cell {w : World} {base n c g : Nat} {L : List UInt8} (h : OB w base (some ⟨g, 0, none⟩) n c L) {i : Nat} (hi : i < n) : w.cell? ⟨g, i, none⟩ = some (.int .u8 (u8i (ub L i))) := by
  obtain ⟨ad, e, hc⟩ := h.rb.cells (by omega)
  injection e with e
  subst e
  have := hc i hi
  rw [add_plain] at this
  exact this
theorem OB.frozen {w : World} {base n c g : Nat} {L : List UInt8} (h : OB w base (some ⟨g, 0, none⟩) n c L) (i : Nat) : w.frozen? ⟨g, i, none⟩ = false := World.ownsRow.frozenAt h i
theorem OB.ge {w : World} {base n c g : Nat} {L : List UInt8} (h : OB w base (some ⟨g, 0, none⟩) n c L) : base ≤ g := (h.lt rfl).1
theorem RB.litM (w : World) (L : List UInt8) (fr : Nat × Nat) {n : Nat} (hn : L.length = n) (hm : n ≤ maxLen) : RB (w.alloc (.cells (bv L).toArray 5 fr)) (some ⟨w.heap.size, 0, none⟩) n n L := by
  refine ⟨hn, Nat.le_refl _, hm, fun _ => ⟨_, rfl, fun j hj => ?_⟩⟩
  rw [add_plain, cell_of_row _ _ _ _ _ fr (heap_alloc_new w _), List.getElem?_toArray]
  exact bv_get (by omega)
/-- the first k bytes are c, the others 0 -/
def fillL (c : UInt8) (m k : Nat) : List UInt8 := List.replicate k c ++ List.replicate (m - k) 0
theorem fillL_succ {c : UInt8} {m k : Nat} (h : k < m) : (fillL c m k).set k c = fillL c m (k + 1) := by
  unfold fillL
  rw [List.set_append_right _ _ (by simp), List.length_replicate, Nat.sub_self, show m - k = (m - (k + 1)) + 1 by omega, List.replicate_succ, List.set_cons_zero, List.replicate_succ', List.append_assoc]
  rfl
theorem RB.take {w : World} {A : Option Addr} {n c : Nat} {L : List UInt8} (h : RB w A n c L) {k : Nat} (hk : k ≤ n) : RB w A k c (L.take k) := by
  have h1 := h.cut (i := 0) (j := k) (c' := c) (A' := A) (by omega) (by omega) rfl (fun _ => by cases A <;> simp [Addr.add])
  simpa using h1
end Go.Proofs.Ytmgnigofilkfmaa

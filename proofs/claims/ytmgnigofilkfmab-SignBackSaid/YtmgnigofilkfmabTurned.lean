/-
  A row of byte slices of the call's own: one is turned.
-/
import Derived.Test.YtmgnigofilkfmabOnceG
import Derived.Test.YtmgnigofilkfmabSeed
namespace Go.Proofs.Ytmgnigofilkfmab
set_option maxRecDepth 100000
open Go Go.RowKit
theorem bitvec_u8t (x : UInt8) : BitVec.ofInt (IntKind.u8).bits (x.toNat : Int) = x.toBitVec := by
  apply BitVec.eq_of_toNat_eq
  have := x.toNat_lt
  simp [IntKind.bits]
theorem bits_xor8t (x y : UInt8) : bits .xor .u8 (u8i x) (u8i y) = u8i (x ^^^ y) := by
  have h1 : BitVec.ofInt (IntKind.u8).bits (u8i x) = x.toBitVec := bitvec_u8t x
  have h2 : BitVec.ofInt (IntKind.u8).bits (u8i y) = y.toBitVec := bitvec_u8t y
  unfold bits
  simp only [h1, h2]
  have h3 := (x ^^^ y).toNat_lt
  show IntKind.u8.wrap ((x ^^^ y).toNat : Int) = u8i (x ^^^ y)
  rw [IntKind.wrap_u8]
  unfold u8i
  omega
theorem OBC.plain {w : World} {base n c : Nat} {ad : Addr} {Ls : List (List UInt8)} (h : OBC w base (some ad) n c Ls) : ∃ g, ad = ⟨g, 0, none⟩ := by
  obtain ⟨vs, h1, _⟩ := h
  rcases h1.2 with ⟨e, _⟩ | ⟨g', cap, cur, e, _⟩
  · cases e
  · injection e with e1 e2 e3
    injection e1 with e1
    exact ⟨g', e1⟩
theorem OBC.frozen {w : World} {base n c g : Nat} {Ls : List (List UInt8)} (h : OBC w base (some ⟨g, 0, none⟩) n c Ls) (i : Nat) : w.frozen? ⟨g, i, none⟩ = false := by
  obtain ⟨vs, h1, _⟩ := h
  exact World.ownsRow.frozenAt h1 i
theorem lb_set {Ls : List (List UInt8)} {i j : Nat} {Y : List UInt8} (hi : i < Ls.length) : lb (Ls.set i Y) j = if j = i then Y else lb Ls j := by
  unfold lb
  by_cases h : j = i
  · subst h; simp [hi]
  · rw [if_neg h]; simp [List.getElem?_set, Ne.symm h]
theorem OBC.turn {w0 w5 a : World} {base n c g g5 c5 : Nat} {Ls : List (List UInt8)} {Y : List UInt8} (h : OBC w0 base (some ⟨g, 0, none⟩) n c Ls) (hE : Ext w0 w5) (h5 : OB w5 w0.heap.size (some ⟨g5, 0, none⟩) 32 c5 Y) (i : Nat) (hi : i < n) (ha : Ext a w0) (hab : a.heap.size ≤ base) :
    (w5.setCell ⟨g, i, none⟩ (.slice (some ⟨g5, 0, none⟩) 32 c5)).cell? ⟨g, i, none⟩ = some (.slice (some ⟨g5, 0, none⟩) 32 c5) ∧ OB (w5.setCell ⟨g, i, none⟩ (.slice (some ⟨g5, 0, none⟩) 32 c5)) w0.heap.size (some ⟨g5, 0, none⟩) 32 c5 Y ∧
    ∀ b : UInt8, RBB ((w5.setCell ⟨g, i, none⟩ (.slice (some ⟨g5, 0, none⟩) 32 c5)).setCell ⟨g5, 7, none⟩ (.int .u8 (u8i b))) (some ⟨g, 0, none⟩) n c (Ls.set i (Y.set 7 b)) ∧ Ext a ((w5.setCell ⟨g, i, none⟩ (.slice (some ⟨g5, 0, none⟩) 32 c5)).setCell ⟨g5, 7, none⟩ (.int .u8 (u8i b))) := by
  have hr := h.rbb
  have hlt := h.lt (k := g) rfl
  have hge := h5.ge
  obtain ⟨vs, h1, h2, h3⟩ := h
  have hvl : vs.length = n := by have := h1.1; omega
  have k1 : w5.ownsRow base 22 1 (.slice (some ⟨g, 0, none⟩) n c) n vs := World.ownsRow.kept h1 (hE.grownBy none) (by cases hb : Value.ownBlock (.slice (some ⟨g, 0, none⟩) n c) <;> simp)
  have s := World.ownsRow.stored k1 i (.slice (some ⟨g5, 0, none⟩) 32 c5)
  have h56 : OB (w5.setCell ⟨g, i, none⟩ (.slice (some ⟨g5, 0, none⟩) 32 c5)) w0.heap.size (some ⟨g5, 0, none⟩) 32 c5 Y := h5.grown s.2 (.inr (by intro e; injection e with e; have e' : g5 = g := e; omega))
  refine ⟨?_, h56, fun b => ?_⟩
  · have := World.ownsRow.cells s.1 (g := g) rfl i (.slice (some ⟨g5, 0, none⟩) 32 c5) (by simp [hvl, hi])
    rw [add_plain] at this
    exact this
  · have s2 := h56.set 7 b
    have k2 := World.ownsRow.kept s.1 s2.2 (.inr (by rw [ownBlock_slice]; intro e; injection e with e; have e' : g = g5 := e; omega))
    refine ⟨⟨by simp [h2], hr.room, hr.cap, fun _ => ⟨_, rfl, fun j hj => ?_⟩⟩, Ext.then_grown (Ext.then_grown (ha.trans hE) s.2 (by intro k hk; cases hk; omega)) s2.2 (by intro k hk; cases hk; have := ha.size; omega)⟩
    rw [lb_set (by omega)]
    by_cases hji : j = i
    · subst hji
      rw [if_pos rfl]
      exact ⟨_, _, _, World.ownsRow.cells k2 (g := g) rfl j (.slice (some ⟨g5, 0, none⟩) 32 c5) (by simp [hvl, hj]), s2.1.rb⟩
    · rw [if_neg hji]
      obtain ⟨B, m, d, h4, h5', h6⟩ := h3 j hj
      refine ⟨B, m, d, World.ownsRow.cells k2 (g := g) rfl j _ (by rw [List.getElem?_set_ne (Ne.symm hji)]; exact h4), ((h5'.ext hE).grown s.2 h6).grown s2.2 ?_⟩
      intro hm e
      have := rb_blk_lt h5' hm _ e
      omega
end Go.Proofs.Ytmgnigofilkfmab

/-
  Appending many slices to a row of the call's own. wire's Writer and Reader, walked. wire's Writer, walked: New, Byte, Num, Bytes, Raw, Done.
-/
import Derived.Test.YtkndgpjamijbbaaLawPairs26Q14
import Derived.Test.YtkndgpjamijbbaaLawPairs26Q10
namespace Go.Proofs.Ytkndgpjamijbbaa
set_option maxRecDepth 100000
open Go Go.RowKit
theorem RBB.vals {w : World} {A : Option Addr} {n c : Nat} {Ls : List (List UInt8)} (h : RBB w A n c Ls) :
    ∃ us : List Value, us.length = n ∧ (∀ ad, A = some ad → ∀ j u, us[j]? = some u → w.cell? (ad.add j) = some u) ∧ (∀ u ∈ us, u.oneCell' = true) ∧ ∀ j, j < n → ∃ B m d, us[j]? = some (.slice B m d) ∧ RB w B m d (lb Ls j) := by
  by_cases hn : n = 0
  · subst hn
    exact ⟨[], rfl, fun _ _ j u hu => by simp at hu, fun u hu => by simp at hu, fun j hj => absurd hj (Nat.not_lt_zero _)⟩
  · obtain ⟨ad, rfl, hc⟩ := h.cells (by omega)
    have pick : ∃ f : Nat → Value, ∀ j, j < n → w.cell? (ad.add j) = some (f j) ∧ ∃ B m d, f j = .slice B m d ∧ RB w B m d (lb Ls j) :=
      ⟨fun j => (w.cell? (ad.add j)).getD undef, fun j hj => by
        obtain ⟨B, m, d, h1, h2⟩ := hc j hj
        have e : (w.cell? (ad.add j)).getD undef = .slice B m d := by rw [h1]; rfl
        exact ⟨by show w.cell? (ad.add j) = some ((w.cell? (ad.add j)).getD undef); rw [e]; exact h1, B, m, d, e, h2⟩⟩
    obtain ⟨f, hf⟩ := pick
    have hget : ∀ j, j < n → ((List.range n).map f)[j]? = some (f j) := fun j hj => by simp [hj]
    refine ⟨(List.range n).map f, by simp, fun ad' e j u hu => ?_, fun u hu => ?_, fun j hj => ?_⟩
    · cases e
      have hj : j < n := by
        rcases Nat.lt_or_ge j n with h1 | h1
        · exact h1
        · rw [List.getElem?_eq_none (by simpa using h1)] at hu; cases hu
      rw [hget j hj] at hu
      injection hu with hu
      subst hu
      exact (hf j hj).1
    · simp only [List.mem_map, List.mem_range] at hu
      obtain ⟨j, hj, rfl⟩ := hu
      obtain ⟨_, B, m, d, h1, _⟩ := hf j hj
      rw [h1]
      simp [Value.oneCell']
    · obtain ⟨_, B, m, d, h1, h2⟩ := hf j hj
      exact ⟨B, m, d, by rw [hget j hj, h1], h2⟩
end Go.Proofs.Ytkndgpjamijbbaa
namespace Go.Proofs.Ytkndgpjamijbbaa
set_option maxRecDepth 100000
open Go Go.RowKit

/-- but for block p and the row at A nothing that was there is turned -/
structure Chg (w w' : World) (p : Nat) (A : Option Addr) : Prop where
  os : w'.os = w.os
  tape : w'.tape = w.tape
  output : w'.output = w.output
  size : w.heap.size ≤ w'.heap.size
  block : ∀ k, k < w.heap.size → k ≠ p → blk A ≠ some k → w'.heap[k]? = w.heap[k]?
def Later (w : World) (A A' : Option Addr) : Prop := blk A' = blk A ∨ blk A' = none ∨ ∃ k, blk A' = some k ∧ w.heap.size ≤ k
theorem Chg.refl (w : World) (p : Nat) (A : Option Addr) : Chg w w p A := ⟨rfl, rfl, rfl, Nat.le_refl _, fun _ _ _ _ => rfl⟩
theorem Chg.trans {a b c : World} {p : Nat} {A B : Option Addr} (h : Chg a b p A) (hl : Later a A B) (k : Chg b c p B) : Chg a c p A :=
  ⟨k.os.trans h.os, k.tape.trans h.tape, k.output.trans h.output, Nat.le_trans h.size k.size, fun i hi h1 h2 => by
    refine (k.block i (Nat.lt_of_lt_of_le hi h.size) h1 ?_).trans (h.block i hi h1 h2)
    rcases hl with e | e | ⟨q, e, hq⟩
    · rw [e]; exact h2
    · rw [e]; simp
    · rw [e]; intro e2; cases e2; omega⟩
theorem Later.trans {a b : World} {A B C : Option Addr} (h : Later a A B) (hs : a.heap.size ≤ b.heap.size) (k : Later b B C) : Later a A C := by
  rcases k with e | e | ⟨q, e, hq⟩
  · rcases h with e' | e' | ⟨q', e', hq'⟩
    · exact .inl (e.trans e')
    · exact .inr (.inl (e.trans e'))
    · exact .inr (.inr ⟨q', e.trans e', hq'⟩)
  · exact .inr (.inl e)
  · exact .inr (.inr ⟨q, e, Nat.le_trans hs hq⟩)
theorem Later.refl (w : World) (A : Option Addr) : Later w A A := .inl rfl
theorem Ext.chg {w w' : World} (h : Ext w w') (p : Nat) (A : Option Addr) : Chg w w' p A := ⟨h.os, h.tape, h.output, h.size, fun _ hk _ _ => h.block hk⟩
/-- A Writer: block p holds the row that it has written so far. -/
structure Wtr (w : World) (base p : Nat) (A : Option Addr) (n c : Nat) (L : List UInt8) : Prop where
  blk : Blk w p 157 #[.slice A n c]
  own : OB w base A n c L
  ne : Go.Proofs.Ytkndgpjamijbbaa.blk A ≠ some p
  base : base ≤ p
/-- a slice that is read, apart from the Writer's own memory -/
def Away (B : Option Addr) (n p : Nat) (A : Option Addr) : Prop := 0 < n → ∀ k, blk B = some k → k ≠ p ∧ blk A ≠ some k
theorem RB.chg {w w' : World} {B : Option Addr} {n d p : Nat} {A : Option Addr} {M : List UInt8} (h : RB w B n d M) (k : Chg w w' p A) (ha : Away B n p A) : RB w' B n d M :=
  ⟨h.len, h.room, h.cap, fun hn => by
    obtain ⟨ad, rfl, hc⟩ := h.cells hn
    refine ⟨ad, rfl, fun j hj => ?_⟩
    have h1 := ha hn ad.block rfl
    have h2 := hc j hj
    have h3 := World.block_lt_of_cell? w _ h2
    rw [block_of_add] at h3
    refine (World.cell?_of_block ?_).trans h2
    rw [block_of_add]
    exact k.block _ h3 h1.1 h1.2⟩
theorem Away.later {w : World} {B : Option Addr} {n p : Nat} {A A' : Option Addr} (h : Away B n p A) (hl : Later w A A') (hb : 0 < n → ∀ k, blk B = some k → k < w.heap.size) : Away B n p A' := by
  intro hn k hk
  refine ⟨(h hn k hk).1, ?_⟩
  rcases hl with e | e | ⟨q, e, hq⟩
  · rw [e]; exact (h hn k hk).2
  · rw [e]; simp
  · rw [e]; intro e2; cases e2; have := hb hn _ hk; omega
theorem OB.far {w : World} {base n c : Nat} {A : Option Addr} {L : List UInt8} (h : OB w base A n c L) {p : Addr} {u : Value} (hp : blk A ≠ some p.block) : OB (w.setCell p u) base A n c L :=
  h.grown (grownBy_setCell w p u) (.inr hp)
end Go.Proofs.Ytkndgpjamijbbaa
namespace Go.Proofs.Ytkndgpjamijbbaa
set_option maxRecDepth 100000
open Go Go.RowKit
/-- behind a call that wrote: the Writer holds M; nothing but its own memory was turned -/
def WP (wI w : World) (p : Nat) (A0 : Option Addr) (N : Nat) (M : List UInt8) (w' : World) : Prop := ∃ A c, Wtr w' wI.heap.size p A N c M ∧ Chg w w' p A0 ∧ Later w A0 A
theorem WP.trans {wI w w1 w2 : World} {p N N' : Nat} {A0 : Option Addr} {M M' : List UInt8} {A : Option Addr} {c : Nat} (h1 : Wtr w1 wI.heap.size p A N c M) (h2 : Chg w w1 p A0) (h3 : Later w A0 A) (k : WP wI w1 p A N' M' w2) : WP wI w p A0 N' M' w2 := by
  obtain ⟨A', c', k1, k2, k3⟩ := k
  exact ⟨A', c', k1, h2.trans h3 k2, h3.trans h2.size k3⟩
end Go.Proofs.Ytkndgpjamijbbaa

/-
  A region whose calls turn one object of the call's own, one behind the other, with other operations between in any order. Plain theorems. manifest.Decode, walked. The reference's Reader, walked. ref5.Decode, walked. check.Get, check.Decode, walked.
-/
import Derived.Test.YthggfbpdhkpkjaaLawNumbers11Q10
import Derived.Test.YthggfbpdhkpkjaaLawNumbers11Q22
import Derived.Test.YthggfbpdhkpkjaaLawNumbers11Q20
import Derived.Test.YthggfbpdhkpkjaaLawNumbers11Q12
import Derived.Laws.CopyOwn
namespace Go.Proofs.Ythggfbpdhkpkjaa
set_option maxRecDepth 100000
open Go Go.RowKit
def StaysQ (q : Nat) (m : MP Ext) : Prop := ∀ u w w', w.grownBy w' (some q) → m.p u w → m.p u w'
def StaysQL (q : Nat) : List (MP Ext) → Prop
  | [] => True
  | m :: l => StaysQ q m ∧ StaysQL q l
theorem StaysQL.at_ {q : Nat} {F : List (MP Ext)} : ∀ {j : Nat} {m : MP Ext}, StaysQL q F → F[j]? = some m → StaysQ q m := by
  induction F with
  | nil => intro j m _ h; simp at h
  | cons x l ih =>
    intro j m h hj
    cases j with
    | zero =>
      simp only [List.getElem?_cons_zero, Option.some.injEq] at hj
      subst hj
      exact h.1
    | succ j => exact ih (j := j) h.2 (by simpa only [List.getElem?_cons_succ] using hj)
section
variable {ops : Array Oper} {H : List Tmp} {F : List (MP Ext)} {a0 : Act} {w0 wI : World} {q : Nat} {cs : List Nat} {S : Nat → World → Prop} {i : Nat} {o : Oper}
end
end Go.Proofs.Ythggfbpdhkpkjaa
namespace Go.Proofs.Ythggfbpdhkpkjaa
set_option maxRecDepth 100000
open Go Go.RowKit
def MP.man (q : Nat) (m : Man) : MP Ext := ⟨fun u w => ∃ F nf cf N nn cn, u = manV m F nf cf N nn cn ∧ RB w F nf cf m.fw ∧ RB w N nn cn m.notes ∧ (0 < nf → blk F ≠ some q) ∧ (0 < nn → blk N ≠ some q),
  fun _ _ _ e ⟨F, nf, cf, N, nn, cn, h1, h2, h3, h4, h5⟩ => ⟨F, nf, cf, N, nn, cn, h1, h2.ext e, h3.ext e, h4, h5⟩⟩
theorem RB.apart {w : World} {A : Option Addr} {n c : Nat} {L : List UInt8} (h : RB w A n c L) {g : Nat} {t : TypeId} {cs : Array Value} (hb : Blk w g t cs) (hno : ∀ (i : Nat) (x : Int), cs[i]? ≠ some (.int .u8 x)) : 0 < n → blk A ≠ some g := by
  intro hn e
  obtain ⟨ad, rfl, hc⟩ := h.cells hn
  have h1 := hc 0 hn
  have h2 : ad.block = g := by simpa [blk] using e
  unfold World.cell? at h1
  have h3 : (ad.add 0).block = ad.block := rfl
  rw [h3, h2, show w.heap[g]? = _ from hb] at h1
  by_cases hs : (ad.add 0).spot.isSome = true
  · simp [hs] at h1
  · simp only [hs] at h1
    exact hno _ _ h1
theorem set4 {w : World} {g : Nat} {t : TypeId} {a0 a1 a2 a3 : Value} (h : Blk w g t #[a0, a1, a2, a3]) (b0 b1 b2 b3 : Value) :
    Blk ((((w.setCell ⟨g, 0, none⟩ b0).setCell ⟨g, 1, none⟩ b1).setCell ⟨g, 2, none⟩ b2).setCell ⟨g, 3, none⟩ b3) g t #[b0, b1, b2, b3] ∧ w.grownBy ((((w.setCell ⟨g, 0, none⟩ b0).setCell ⟨g, 1, none⟩ b1).setCell ⟨g, 2, none⟩ b2).setCell ⟨g, 3, none⟩ b3) (some g) :=
  ⟨(((h.set 0 b0).set 1 b1).set 2 b2).set 3 b3, (((grownBy_setCell w ⟨g, 0, none⟩ _).trans (grownBy_setCell _ ⟨g, 1, none⟩ _)).trans (grownBy_setCell _ ⟨g, 2, none⟩ _)).trans (grownBy_setCell _ ⟨g, 3, none⟩ _)⟩
end Go.Proofs.Ythggfbpdhkpkjaa
namespace Go.Proofs.Ythggfbpdhkpkjaa
set_option maxRecDepth 100000
open Go Go.RowKit
/-- The reference's Reader at block q: what is left of it reads as L. -/
def RR (w : World) (base q : Nat) (L : List UInt8) (bad : Bool) : Prop :=
  ∃ (A : Option Addr) (n c At : Nat) (B : List UInt8), Blk w q 98 #[.slice A n c, .int .i64 (At : Int), .bool bad] ∧ RB w A n c B ∧ At ≤ n ∧ n ≤ 140737488355328 ∧ base ≤ q ∧ (bad = false → L = B.drop At) ∧ (bad = true → L = []) ∧ (0 < n → ∀ k, blk A = some k → k < base)
theorem rd_no (A : Option Addr) (n c : Nat) (x : Int) (b : Bool) (i : Nat) (y : Int) : (#[.slice A n c, .int .i64 x, .bool b] : Array Value)[i]? ≠ some (.int .u8 y) := by
  rcases i with _ | _ | _ | i <;> simp
theorem RR.ge {w : World} {base q : Nat} {L : List UInt8} {bad : Bool} (h : RR w base q L bad) : base ≤ q := by
  obtain ⟨A, n, c, At, B, h1, h2, h3, h4, h5, h6⟩ := h
  exact h5
theorem RR.lt {w : World} {base q : Nat} {L : List UInt8} {bad : Bool} (h : RR w base q L bad) : q < w.heap.size := by
  obtain ⟨A, n, c, At, B, h1, h2⟩ := h
  exact h1.lt
end Go.Proofs.Ythggfbpdhkpkjaa
namespace Go.Proofs.Ythggfbpdhkpkjaa
set_option maxRecDepth 100000
open Go Go.RowKit
theorem RR.blk_ {w : World} {base q : Nat} {L : List UInt8} {bad : Bool} (h : RR w base q L bad) : ∃ cs, Blk w q 98 cs ∧ ∀ (i : Nat) (x : Int), cs[i]? ≠ some (.int .u8 x) := by
  obtain ⟨A, n, c, At, B, h1, _⟩ := h
  exact ⟨_, h1, rd_no _ _ _ _ _⟩
theorem RR.row {w w' : World} {base q : Nat} {L : List UInt8} {bad : Bool} (h : RR w base q L bad) {P : Option Addr} {n c : Nat} {vs : List Value} (own : w.ownsRow base 22 1 (.slice P n c) n vs) (g : w.grownBy w' (blk P)) : RR w' base q L bad := by
  obtain ⟨A, n', c', At, B, h1, h2, h3, h4, h5, h6, h7, h8⟩ := h
  have hlt : ∀ k, blk P = some k → base ≤ k := fun k hk => (World.ownsRow.lt own k (by rw [ownBlock_slice]; exact hk)).1
  refine ⟨A, n', c', At, B, h1.grown g (fun e => ?_), h2.grown g (fun h0 e => ?_), h3, h4, h5, h6, h7, h8⟩
  · exact row_ne own h1 (by decide) (by rw [ownBlock_slice]; exact e.symm)
  · cases hA : blk A with
    | none =>
      obtain ⟨ad, e1, _⟩ := h2.cells h0
      rw [e1] at hA
      cases hA
    | some k =>
      have := h8 h0 k hA
      have := hlt k (e.symm.trans hA)
      omega
theorem RR.far {w w' : World} {base q : Nat} {L : List UInt8} {bad : Bool} (h : RR w base q L bad) {k : Nat} {cs : Array Value} (hb : Blk w k 39 cs) (hno : ∀ (i : Nat) (x : Int), cs[i]? ≠ some (.int .u8 x)) (g : w.grownBy w' (some k)) : RR w' base q L bad := by
  obtain ⟨A, n', c', At, B, h1, h2, h3⟩ := h
  refine ⟨A, n', c', At, B, h1.grown g (fun e => ?_), h2.grown g (h2.apart5 hb hno), h3⟩
  injection e with e
  subst e
  unfold Blk at h1 hb
  rw [h1] at hb
  injection hb with hb
  injection hb with _ hb
  revert hb
  decide
theorem Chg.step {a b c : World} {p : Nat} {A : Option Addr} {row : Option Nat} (h : Chg a b p A) (g : b.grownBy c row) (hr : ∀ k, row = some k → k = p ∨ blk A = some k ∨ a.heap.size ≤ k) : Chg a c p A :=
  ⟨g.os.trans h.os, g.tape.trans h.tape, g.output.trans h.output, Nat.le_trans h.size g.size, fun i hi h1 h2 => (g.block i (Nat.lt_of_lt_of_le hi h.size) (fun e => by
    rcases hr i e.symm with e' | e' | e'
    · exact h1 e'
    · exact h2 e'
    · omega)).trans (h.block i hi h1 h2)⟩
theorem OBC.chg {w w' : World} {base n c p g : Nat} {A : Option Addr} {Ls : List (List UInt8)} (h : OBC w base A n c Ls) (k : Chg w w' p (some ⟨g, 0, none⟩)) {tp tg : TypeId} {cp cg : Array Value} (hp : Blk w p tp cp) (hg : Blk w g tg cg) (htp : tp ≠ 22) (htg : tg ≠ 22)
    (np : ∀ (i : Nat) (x : Int), cp[i]? ≠ some (.int .u8 x)) (ng : ∀ (i : Nat) (x : Int), cg[i]? ≠ some (.int .u8 x)) : OBC w' base A n c Ls := by
  obtain ⟨vs, h1, h2, h3⟩ := h
  refine ⟨vs, row_chg h1 k (row_ne h1 hp htp) (fun b hb => by cases hb; exact row_ne h1 hg htg), h2, fun j hj => ?_⟩
  obtain ⟨B, m, d, h4, h5, h6⟩ := h3 j hj
  refine ⟨B, m, d, h4, h5.chg k (fun hm b hb => ⟨fun e => ?_, fun e => ?_⟩), h6⟩
  · exact h5.apart5 hp np hm (by rw [hb, e])
  · exact h5.apart5 hg ng hm (by rw [hb]; exact e.symm)
end Go.Proofs.Ythggfbpdhkpkjaa
namespace Go.Proofs.Ythggfbpdhkpkjaa
set_option maxRecDepth 100000
open Go Go.RowKit
/-- what is read of a reader's bytes as a signed checkpoint -/
def gS1 (L : List UInt8) (bad : Bool) : List UInt8 × Bool := (rtake L bad 4).2
def gR (L : List UInt8) (bad : Bool) : List UInt8 := (rtake (gS1 L bad).1 (gS1 L bad).2 32).1
theorem RdrS.away {w w' : World} {base q : Nat} {L : List UInt8} {bad : Bool} (h : RdrS w base q L bad) {k : Nat} {t : TypeId} {cs : Array Value} (hb : Blk w k t cs) (ht : t ≠ 115) (hno : ∀ (i : Nat) (x : Int), cs[i]? ≠ some (.int .u8 x)) (g : w.grownBy w' (some k)) : RdrS w' base q L bad := by
  obtain ⟨A', n', c', hn, hR⟩ := h
  have hbA : 0 < n' → blk A' ≠ some k := hR.rb.apart5 hb hno
  refine ⟨A', n', c', hn, hR.blk.grown g (fun e => ?_), hR.rb.grown g hbA, hR.ne, hR.base, fun h0 k' hk => ?_⟩
  · injection e with e
    subst e
    have h1 := hR.blk
    unfold Blk at h1 hb
    rw [h1] at hb
    injection hb with hb
    injection hb with _ hb
    exact ht hb.symm
  · obtain ⟨cs', fr, h1⟩ := hR.ty h0 k' hk
    exact ⟨cs', fr, (g.block k' (Array.getElem?_eq_some_iff.1 h1).1 (fun e => hbA h0 (by rw [hk, e]))).trans h1⟩
end Go.Proofs.Ythggfbpdhkpkjaa

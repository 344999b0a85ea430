/-
  A region that draws its order, whose operations append, one behind the other, to rows of the call's own. Plain theorems. check.Sign, check.Verify; ref10's Verify, walked. check.Put, check.Encode; ref10's Put, walked. sign.Decode, walked. A row of byte slices of the call's own, each of its own block, all unlike. Plain theorems. law5.turned, walked. Package manifest, walked: name, Right, Encode. manifest.Encode, walked. A region whose calls turn one object of the call's own, one behind the other, with other operations between in any order. Plain theorems. manifest.Decode, walked. The statements' helpers, walked: Hash, Manifest, Item. law10.known, law10.equal, law10.signed, walked. hash.Hex and the statements' own hex, walked: two signs a byte. cosign.Right, cosign.Body; ref10's Policy, walked.
-/
import Derived.Test.YtkndgpjamijbbaaLawTrees26Q25
import Derived.Test.YtkndgpjamijbbaaLawTrees26Q2
import Derived.Test.YtkndgpjamijbbaaLawTrees26Q22
import Derived.Lib.AppendZerosOnto
import Derived.Test.YtkndgpjamijbbaaLawTrees26Q23
import Derived.Test.YtkndgpjamijbbaaLawTrees26Q24
import Derived.Test.YtkndgpjamijbbaaLawTrees26Q14
import Derived.Test.YtkndgpjamijbbaaLawTrees26Q10
import Derived.Test.YtkndgpjamijbbaaLawTrees26Q12
import Derived.Laws.CopyOwn
import Derived.Test.YtkndgpjamijbbaaLawTrees26Q15
import Derived.Deep.MidRow
import Derived.Test.YtkndgpjamijbbaaLawTrees26Q11
import Derived.Test.YtkndgpjamijbbaaLawTrees26Q1
namespace Go.Proofs.Ytkndgpjamijbbaa
set_option maxRecDepth 100000
open Go Go.RowKit
def apPairs (K : List (Nat × Nat)) (i : Nat) (o : Oper) : Bool := K.all fun jk => jk.1 != i || (depsOf o).contains jk.2 || (depsOf o).any fun p => K.contains (p, jk.2)
def JQ (w0 : World) (K : List (Nat × Nat)) (done : Nat → Bool) (w : World) : Prop := Ext w0 w ∧ ∀ j k, K.contains (j, k) = true → done j = true → done k = true
section
variable {ops : Array Oper} {H : List Tmp} {F : List (MP Ext)} {a0 : Act} {w0 : World} {i : Nat} {K : List (Nat × Nat)} {o : Oper}
theorem JQ.set {done : Nat → Bool} {w w' : World} (h : JQ w0 K done w) (e : Ext w0 w') (hi : apPairs K i o = true) (hd : ∀ j, (depsOf o).contains j = true → done j = true) : JQ w0 K (setDone done i) w' := by
  refine ⟨e, fun j k hjk hdj => ?_⟩
  unfold setDone at hdj ⊢
  by_cases hki : k = i
  · rw [if_pos hki]
  · rw [if_neg hki]
    by_cases hji : j = i
    · subst hji
      have h1 := List.all_eq_true.1 hi (j, k) (List.contains_iff_mem.1 hjk)
      simp only [bne_self_eq_false, Bool.false_or, Bool.or_eq_true, List.any_eq_true] at h1
      rcases h1 with h1 | ⟨p, h1, h2⟩
      · exact hd k h1
      · exact h.2 p k h2 (hd p (List.contains_iff_mem.2 h1))
    · rw [if_neg hji] at hdj
      exact h.2 j k hjk hdj
end
end Go.Proofs.Ytkndgpjamijbbaa
namespace Go.Proofs.Ytkndgpjamijbbaa
set_option maxRecDepth 100000
open Go Go.RowKit
/-- what a key of an owner shows of a message -/
def sigP (S M : List UInt8) (k : Nat) : List (List UInt8) := (List.range 64).map (partS (digestW M) S (k : Int))
end Go.Proofs.Ytkndgpjamijbbaa
namespace Go.Proofs.Ytkndgpjamijbbaa
set_option maxRecDepth 100000
open Go Go.RowKit
theorem Wtr.ext_ {w w' : World} {base p n c : Nat} {A : Option Addr} {L : List UInt8} (h : Wtr w base p A n c L) (e : Ext w w') : Wtr w' base p A n c L := ⟨h.blk.ext e, h.own.ext e, h.ne, h.base⟩
theorem Wtr.ext {w w' : World} {base p n c : Nat} {A : Option Addr} {L : List UInt8} (h : Wtr w base p A n c L) (e : Ext w w') : Wtr w' base p A n c L := h.ext_ e
theorem WP.of_ext {wI w w' : World} {p n c : Nat} {A : Option Addr} {L : List UInt8} (h : Wtr w wI.heap.size p A n c L) (e : Ext w w') : WP wI w p A n L w' := ⟨A, c, h.ext_ e, e.chg _ _, Later.refl _ _⟩
theorem WP.pre {wI w w1 w2 : World} {p N : Nat} {A : Option Addr} {M : List UInt8} (e : Ext w w1) (h : WP wI w1 p A N M w2) : WP wI w p A N M w2 := by
  obtain ⟨A', c', k1, k2, k3⟩ := h
  refine ⟨A', c', k1, (e.chg p A).trans (Later.refl _ _) k2, ?_⟩
  rcases k3 with k | k | ⟨q, k, hq⟩
  · exact .inl k
  · exact .inr (.inl k)
  · exact .inr (.inr ⟨q, k, Nat.le_trans e.size hq⟩)
end Go.Proofs.Ytkndgpjamijbbaa
namespace Go.Proofs.Ytkndgpjamijbbaa
set_option maxRecDepth 100000
open Go Go.RowKit
theorem RdrS.row {w w' : World} {base q : Nat} {L : List UInt8} {bad : Bool} (h : RdrS w base q L bad) {b : Nat} {A : Option Addr} {n c : Nat} {vs : List Value} (own : w.ownsRow b 22 1 (.slice A n c) n vs) (g : w.grownBy w' (blk A)) : RdrS w' base q L bad := by
  obtain ⟨A', n', c', hn, hR⟩ := h
  have hne : ∀ k, blk A = some k → ∀ cs t fr, w.heap[k]? = some (.cells cs t fr) → t = 22 := by
    intro k hk cs t fr hc
    obtain ⟨cs', h1⟩ := row_type own (k := k) (by rw [ownBlock_slice]; exact hk)
    rw [h1] at hc
    injection hc with hc
    injection hc with _ hc
    exact hc.symm
  have hbA : 0 < n' → blk A' ≠ blk A := by
    intro h0 e
    cases hA : blk A with
    | none =>
      rw [hA] at e
      obtain ⟨ad, h1, _⟩ := hR.rb.cells h0
      rw [h1] at e
      cases e
    | some k =>
      rw [hA] at e
      obtain ⟨cs, fr, h1⟩ := hR.ty h0 k e
      have := hne k hA cs _ fr h1
      revert this
      decide
  refine ⟨A', n', c', hn, hR.blk.grown g ?_, hR.rb.grown g hbA, hR.ne, hR.base, fun h0 k hk => ?_⟩
  · intro e
    have := hne q e.symm _ _ _ hR.blk
    revert this
    decide
  · obtain ⟨cs, fr, h1⟩ := hR.ty h0 k hk
    exact ⟨cs, fr, (g.block k (Array.getElem?_eq_some_iff.1 h1).1 (fun e => hbA h0 (by rw [hk, e]))).trans h1⟩
/-- a row of byte slices of the call's own, all of them of blocks at or beyond b -/
def OBE (w : World) (b : Nat) (A : Option Addr) (n c : Nat) (Ls : List (List UInt8)) : Prop :=
  ∃ vs : List Value, w.ownsRow b 22 1 (.slice A n c) n vs ∧ Ls.length = n ∧ ∀ j, j < n → ∃ B m d, vs[j]? = some (.slice B m d) ∧ RB w B m d (lb Ls j) ∧ (0 < m → blk B ≠ blk A ∧ ∀ k, blk B = some k → b ≤ k)
section
variable {w w' : World} {b n c : Nat} {A : Option Addr} {Ls : List (List UInt8)}
theorem OBE.none_ (w : World) (b : Nat) : OBE w b none 0 0 [] := ⟨[], World.ownsRow_nil w _ _ _, rfl, fun j hj => absurd hj (Nat.not_lt_zero _)⟩
theorem OBE.obc (h : OBE w b A n c Ls) : OBC w b A n c Ls := by
  obtain ⟨vs, h1, h2, h3⟩ := h
  refine ⟨vs, h1, h2, fun j hj => ?_⟩
  obtain ⟨B, m, d, h4, h5, h6⟩ := h3 j hj
  exact ⟨B, m, d, h4, h5, fun hm => (h6 hm).1⟩
theorem OBE.lt (h : OBE w b A n c Ls) {k : Nat} (hk : blk A = some k) : b ≤ k ∧ k < w.heap.size := h.obc.lt hk
theorem OBE.ext (h : OBE w b A n c Ls) (e : Ext w w') : OBE w' b A n c Ls := by
  obtain ⟨vs, h1, h2, h3⟩ := h
  refine ⟨vs, World.ownsRow.kept h1 (e.grownBy none) ?_, h2, fun j hj => ?_⟩
  · cases hb : Value.ownBlock (.slice A n c) <;> simp
  · obtain ⟨B, m, d, h4, h5, h6⟩ := h3 j hj
    exact ⟨B, m, d, h4, h5.ext e, h6⟩
theorem OBE.base {b' : Nat} (h : OBE w b A n c Ls) (hb : b' ≤ b) : OBE w b' A n c Ls := by
  obtain ⟨vs, h1, h2, h3⟩ := h
  refine ⟨vs, ownsRow_base h1 hb, h2, fun j hj => ?_⟩
  obtain ⟨B, m, d, h4, h5, h6⟩ := h3 j hj
  exact ⟨B, m, d, h4, h5, fun hm => ⟨(h6 hm).1, fun k hk => Nat.le_trans hb ((h6 hm).2 k hk)⟩⟩
theorem OBE.far (h : OBE w b A n c Ls) {g : Nat} {t : TypeId} {cs : Array Value} (hb : Blk w g t cs) (ht : t ≠ 22) (hno : ∀ (i : Nat) (x : Int), cs[i]? ≠ some (.int .u8 x)) (e : w.grownBy w' (some g)) : OBE w' b A n c Ls := by
  obtain ⟨vs, h1, h2, h3⟩ := h
  refine ⟨vs, World.ownsRow.kept h1 e (.inr (row_ne h1 hb ht)), h2, fun j hj => ?_⟩
  obtain ⟨B, m, d, h4, h5, h6⟩ := h3 j hj
  exact ⟨B, m, d, h4, h5.grown e (h5.apart5 hb hno), h6⟩
end
end Go.Proofs.Ytkndgpjamijbbaa
namespace Go.Proofs.Ytkndgpjamijbbaa
set_option maxRecDepth 100000
open Go Go.RowKit
/-- blocks of b and beyond, below u; the elements' ones rise -/
def OBX (w : World) (b u : Nat) (A : Option Addr) (n c : Nat) (Ls : List (List UInt8)) : Prop :=
  ∃ (vs : List Value) (f d : Nat → Nat), w.ownsRow b 22 1 (.slice A n c) n vs ∧ Ls.length = n ∧ (∀ j, j < n → vs[j]? = some (.slice (some ⟨f j, 0, none⟩) 32 (d j)) ∧ OB w b (some ⟨f j, 0, none⟩) 32 (d j) (lb Ls j) ∧ f j < u) ∧ (∀ i j, i < j → j < n → f i < f j) ∧ ∀ k, blk A = some k → k < u
section
variable {w w' : World} {b u n c : Nat} {A : Option Addr} {Ls : List (List UInt8)}
theorem OBX.none_ (w : World) (b u : Nat) : OBX w b u none 0 0 [] := ⟨[], fun _ => 0, fun _ => 0, World.ownsRow_nil w _ _ _, rfl, fun j hj => absurd hj (Nat.not_lt_zero _), fun i j _ hj => absurd hj (Nat.not_lt_zero _), fun k hk => by cases hk⟩
theorem OBX.len (h : OBX w b u A n c Ls) : Ls.length = n := by
  obtain ⟨vs, f, d, h1, h2, _⟩ := h
  exact h2
theorem OBX.lt (h : OBX w b u A n c Ls) {k : Nat} (hk : blk A = some k) : b ≤ k ∧ k < w.heap.size := by
  obtain ⟨vs, f, d, h1, _⟩ := h
  exact World.ownsRow.lt h1 k (by rw [ownBlock_slice]; exact hk)
theorem OBX.kept (h : OBX w b u A n c Ls) {row : Option Nat} (e : w.grownBy w' row) (h1' : ∀ k, row = some k → blk A ≠ some k) (h2' : ∀ (k g m d : Nat) (Y : List UInt8), row = some k → OB w b (some ⟨g, 0, none⟩) m d Y → g < u → g ≠ k) : OBX w' b u A n c Ls := by
  obtain ⟨vs, f, d, h1, h2, h3, h4, h5⟩ := h
  refine ⟨vs, f, d, World.ownsRow.kept h1 e ?_, h2, fun j hj => ⟨(h3 j hj).1, (h3 j hj).2.1.grown e ?_, (h3 j hj).2.2⟩, h4, h5⟩
  · cases row with
    | none => cases hb : Value.ownBlock (.slice A n c) <;> simp
    | some k => exact .inr (by rw [ownBlock_slice]; exact h1' k rfl)
  · cases row with
    | none => exact .inr (by intro e; cases e)
    | some k => exact .inr (fun e => by
        have e2 : some (f j) = some k := e
        injection e2 with e2
        exact h2' k (f j) _ _ _ rfl (h3 j hj).2.1 (h3 j hj).2.2 e2)
theorem OBX.ext (h : OBX w b u A n c Ls) (e : Ext w w') : OBX w' b u A n c Ls := h.kept (e.grownBy none) (fun k hk => by cases hk) (fun k _ _ _ _ hk => by cases hk)
theorem OBX.far (h : OBX w b u A n c Ls) {row : Option Nat} (e : w.grownBy w' row) (hr : ∀ k, row = some k → Other w k) : OBX w' b u A n c Ls := by
  refine h.kept e (fun k hk e => ?_) (fun k g _ _ _ hk ho _ e => ho.other (hr k hk) (by rw [e]))
  obtain ⟨cs, t, fr, g1, g2, g3⟩ := hr k hk
  obtain ⟨vs, f, d, h1, _⟩ := h
  exact row_ne h1 g1 g2 (by rw [ownBlock_slice]; exact e)
theorem OBX.plain (h : OBX w b u A n c Ls) (hn : 0 < n) : ∃ g, A = some ⟨g, 0, none⟩ := by
  obtain ⟨vs, f, d, h1, _⟩ := h
  rcases h1.2 with ⟨_, h0⟩ | ⟨g, cap, cur, e, _⟩
  · omega
  · injection e with e1
    exact ⟨g, e1⟩
theorem OBX.obc (h : OBX w b u A n c Ls) : OBC w b A n c Ls := by
  obtain ⟨vs, f, d, h1, h2, h3, h4, h5⟩ := h
  refine ⟨vs, h1, h2, fun j hj => ?_⟩
  obtain ⟨g1, g2, g3⟩ := h3 j hj
  refine ⟨_, _, _, g1, g2.rb, fun _ e => ?_⟩
  obtain ⟨cs, hcs⟩ := row_type g2 (k := f j) (by rw [ownBlock_slice]; rfl)
  exact row_ne h1 hcs (by decide) (by rw [ownBlock_slice]; exact e.symm)
/-- an element, opened to be turned -/
theorem OBX.at_ {g : Nat} (h : OBX w b u (some ⟨g, 0, none⟩) n c Ls) {i : Nat} (hi : i < n) :
    ∃ g' d', w.cell? ⟨g, i, none⟩ = some (.slice (some ⟨g', 0, none⟩) 32 d') ∧ OB w b (some ⟨g', 0, none⟩) 32 d' (lb Ls i) ∧ g' < u ∧ g' ≠ g ∧
      ∀ (q : Nat) (x : UInt8), OBX (w.setCell ⟨g', q, none⟩ (.int .u8 (u8i x))) b u (some ⟨g, 0, none⟩) n c (Ls.set i ((lb Ls i).set q x)) := by
  obtain ⟨vs, f, d, h1, h2, h3, h4, h5⟩ := h
  obtain ⟨g1, g2, g3⟩ := h3 i hi
  have hne : f i ≠ g := by
    intro e
    obtain ⟨cs, hcs⟩ := row_type g2 (k := f i) (by rw [ownBlock_slice]; rfl)
    exact row_ne h1 hcs (by decide) (by rw [ownBlock_slice, e]; rfl)
  have hc := World.ownsRow.cells h1 (g := g) (by rw [ownBlock_slice]; rfl) i _ g1
  rw [add_plain] at hc
  refine ⟨f i, d i, hc, g2, g3, hne, fun q x => ?_⟩
  have gs := grown_set w ⟨f i, q, none⟩ (.int .u8 (u8i x))
  refine ⟨vs, f, d, World.ownsRow.kept h1 gs (.inr (by rw [ownBlock_slice]; intro e; injection e with e; exact hne e.symm)), by rw [List.length_set]; exact h2, fun j hj => ?_, h4, h5⟩
  obtain ⟨k1, k2, k3⟩ := h3 j hj
  refine ⟨k1, ?_, k3⟩
  rw [lb_set (by omega)]
  by_cases hji : j = i
  · subst hji
    rw [if_pos rfl]
    exact (g2.set q x).1
  · rw [if_neg hji]
    refine k2.grown gs (.inr fun e => ?_)
    have e2 : f j = f i := by
      have e3 : some (f j) = some (f i) := e
      injection e3
    rcases Nat.lt_or_ge j i with h6 | h6
    · have := h4 j i h6 hi; omega
    · have := h4 i j (by omega) hj; omega
end
end Go.Proofs.Ytkndgpjamijbbaa
namespace Go.Proofs.Ytkndgpjamijbbaa
set_option maxRecDepth 100000
open Go Go.RowKit
def TurnPost (w : World) (x how : Int) (i : Nat) (t : UInt8) (Ps Qs : List (List UInt8)) (e : Ending) (w' : World) : Prop :=
  ∃ x' P' n c Q' m d Ps' Qs', e = .returned (.agg #[.int .i64 x', .slice P' n c, .slice Q' m d]) ∧ RBB w' P' n c Ps' ∧ RBB w' Q' m d Qs' ∧ (how = 1 → x' = x ∧ Qs' = Qs ∧ Ps' = Ps.set i ((lb Ps i).set 0 (ub (lb Ps i) 0 ^^^ t))) ∧ Ext w w'
theorem TurnPost.mk {w : World} {x how : Int} {i : Nat} {t : UInt8} {Ps Qs : List (List UInt8)} {e : Ending} {w' : World} (h : ∃ x' P' n c Q' m d Ps' Qs', e = .returned (.agg #[.int .i64 x', .slice P' n c, .slice Q' m d]) ∧ RBB w' P' n c Ps' ∧ RBB w' Q' m d Qs' ∧ (how = 1 → x' = x ∧ Qs' = Qs ∧ Ps' = Ps.set i ((lb Ps i).set 0 (ub (lb Ps i) 0 ^^^ t))) ∧ Ext w w') : TurnPost w x how i t Ps Qs e w' := h
end Go.Proofs.Ytkndgpjamijbbaa
namespace Go.Proofs.Ytkndgpjamijbbaa
set_option maxRecDepth 100000
open Go Go.RowKit
/-- a manifest's value, as it is handed on -/
def manV (m : Man) (F : Option Addr) (nf cf : Nat) (N : Option Addr) (nn cn : Nat) : Value := .agg #[.string (str m.name), .int .u32 (u32i m.ver), .slice F nf cf, .slice N nn cn]
end Go.Proofs.Ytkndgpjamijbbaa
namespace Go.Proofs.Ytkndgpjamijbbaa
set_option maxRecDepth 100000
open Go Go.RowKit
theorem Blk.chg {w w' : World} {g : Nat} {t : TypeId} {cs : Array Value} {p : Nat} {A : Option Addr} (h : Blk w g t cs) (k : Chg w w' p A) (h1 : g ≠ p) (h2 : blk A ≠ some g) : Blk w' g t cs := (k.block g h.lt h1 h2).trans h
end Go.Proofs.Ytkndgpjamijbbaa
namespace Go.Proofs.Ytkndgpjamijbbaa
set_option maxRecDepth 100000
open Go Go.RowKit
def StaysQ (q : Nat) (m : MP Ext) : Prop := ∀ u w w', w.grownBy w' (some q) → m.p u w → m.p u w'
def StaysQL (q : Nat) : List (MP Ext) → Prop
  | [] => True
  | m :: l => StaysQ q m ∧ StaysQL q l
theorem StaysQL.at_ {q : Nat} {F : List (MP Ext)} : ∀ {j : Nat} {m : MP Ext}, StaysQL q F → F[j]? = some m → StaysQ q m := by
  induction F with
  | nil => intro j m _ h; simp at h
  | cons x l ih =>
    intro j m h hj
    cases j with
    | zero =>
      simp only [List.getElem?_cons_zero, Option.some.injEq] at hj
      subst hj
      exact h.1
    | succ j => exact ih (j := j) h.2 (by simpa only [List.getElem?_cons_succ] using hj)
section
variable {ops : Array Oper} {H : List Tmp} {F : List (MP Ext)} {a0 : Act} {w0 wI : World} {q : Nat} {cs : List Nat} {S : Nat → World → Prop} {i : Nat} {o : Oper}
end
end Go.Proofs.Ytkndgpjamijbbaa
namespace Go.Proofs.Ytkndgpjamijbbaa
set_option maxRecDepth 100000
open Go Go.RowKit
def MP.man (q : Nat) (m : Man) : MP Ext := ⟨fun u w => ∃ F nf cf N nn cn, u = manV m F nf cf N nn cn ∧ RB w F nf cf m.fw ∧ RB w N nn cn m.notes ∧ (0 < nf → blk F ≠ some q) ∧ (0 < nn → blk N ≠ some q),
  fun _ _ _ e ⟨F, nf, cf, N, nn, cn, h1, h2, h3, h4, h5⟩ => ⟨F, nf, cf, N, nn, cn, h1, h2.ext e, h3.ext e, h4, h5⟩⟩
theorem RB.apart {w : World} {A : Option Addr} {n c : Nat} {L : List UInt8} (h : RB w A n c L) {g : Nat} {t : TypeId} {cs : Array Value} (hb : Blk w g t cs) (hno : ∀ (i : Nat) (x : Int), cs[i]? ≠ some (.int .u8 x)) : 0 < n → blk A ≠ some g := by
  intro hn e
  obtain ⟨ad, rfl, hc⟩ := h.cells hn
  have h1 := hc 0 hn
  have h2 : ad.block = g := by simpa [blk] using e
  unfold World.cell? at h1
  have h3 : (ad.add 0).block = ad.block := rfl
  rw [h3, h2, show w.heap[g]? = _ from hb] at h1
  by_cases hs : (ad.add 0).spot.isSome = true
  · simp [hs] at h1
  · simp only [hs] at h1
    exact hno _ _ h1
end Go.Proofs.Ytkndgpjamijbbaa
namespace Go.Proofs.Ytkndgpjamijbbaa
set_option maxRecDepth 100000
open Go Go.RowKit
theorem RBB.lit1 {w : World} {B : Option Addr} {m d : Nat} {L : List UInt8} (h : RB w B m d L) (t : TypeId) : RBB (w.alloc (.cells #[.slice B m d] t)) (some ⟨w.heap.size, 0, none⟩) 1 1 [L] :=
  ⟨rfl, Nat.le_refl _, small_maxLen (by decide), fun _ => ⟨_, rfl, fun j hj => by
    obtain rfl : j = 0 := by omega
    refine ⟨B, m, d, ?_, h.ext (Ext.new w _)⟩
    have e : (⟨w.heap.size, 0, none⟩ : Addr).add 0 = ⟨w.heap.size, 0, none⟩ := add_plain _ 0
    rw [e]
    exact (Blk.new w t _).cell rfl⟩⟩
end Go.Proofs.Ytkndgpjamijbbaa
namespace Go.Proofs.Ytkndgpjamijbbaa
set_option maxRecDepth 100000
open Go Go.RowKit
theorem rsign_len (B : Option Addr) (g b m e' k : Nat) (S M : List UInt8) (w : World) (ho : OwnR w b g S) (hm : RB w B m e' M) (hmn : M.length ≤ 1000000) (hk : k < 16) :
    Calls Try.prog 25 #[.pointer (some ⟨g, 0, none⟩), .int .i64 (k : Int), .slice B m e'] w fun e w' => ∃ P d Q d', e = .returned (.agg #[.int .i64 (k : Int), .slice P 64 d, .slice Q 4 d']) ∧ RBB w' P 64 d (sigP S M k) ∧ RBB w' Q 4 d' (pathL S k) ∧ Ext w w' :=
  rsign_any B g b m e' k S M w ho hm (by have := hm.len; omega) hk
end Go.Proofs.Ytkndgpjamijbbaa
namespace Go.Proofs.Ytkndgpjamijbbaa
set_option maxRecDepth 100000
open Go Go.RowKit
theorem Runs.index {P : Program} {o : Oper} {ρ : Operand → Value} {w : World} {G : Value → World → Prop} {t : TypeId} {x i : Operand} {u v r : Value} (ho : o.op = .index t x i) (hx : ρ x = u) (hi : ρ i = v) (hr : (Instr.index t u v).run P w = .ok r w) (h : G r w) : Runs P o ρ w G := by
  refine Runs.of_run (r := r) (w' := w) ?_ h
  unfold execOp
  simp only [ho, hx, hi, Sem.run_bind, hr, Result.andThen_ok, Sem.run_pure]
end Go.Proofs.Ytkndgpjamijbbaa
namespace Go.Proofs.Ytkndgpjamijbbaa
set_option maxRecDepth 100000
open Go Go.RowKit
def noneEq (Ls : List (List UInt8)) (Y : List UInt8) : Prop := ∀ j, j < Ls.length → lb Ls j ≠ Y
def IdcI (w : World) (Ls : List (List UInt8)) (Y : List UInt8) (i : Value) (wr : World) : Prop :=
  ∃ k : Nat, k ≤ Ls.length ∧ i = .int .i64 k ∧ (∀ j, j < k → lb Ls j ≠ Y) ∧ wr = w
end Go.Proofs.Ytkndgpjamijbbaa

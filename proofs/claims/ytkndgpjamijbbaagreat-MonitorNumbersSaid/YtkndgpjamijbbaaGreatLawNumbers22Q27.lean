/-
  Rows of byte slices, and where they lie. Worlds in which some blocks may have been turned; facts that stay whatever is turned there. Plain theorems. Own rows of which each cell, in the room behind it too, is of a kind. Plain theorems. A region that draws its order and has one operation that turns blocks of φ (an append to an own row): the others turn nothing old. Plain theorems. keep.Few, walked; a slice is stored in a row of the call's own. RFC 6962's tree hash, and what two trees of one root show: plain Lean, no program in sight. Cuts of slices of byte slices. Plain theorems.
-/
import Derived.Test.YtkndgpjamijbbaaGreatLawNumbers22Q22
import Derived.Test.YtkndgpjamijbbaaGreatLawNumbers22Q26
import Derived.Test.YtkndgpjamijbbaaGreatLawNumbers22Q5
import Derived.Test.YtkndgpjamijbbaaGreatLawNumbers22Q14
import Derived.Test.YtkndgpjamijbbaaGreatLawNumbers22Q4
namespace Go.Proofs.YtkndgpjamijbbaaGreat
set_option maxRecDepth 100000
open Go Go.RowKit
/-- a slice of byte slices that reads as Ls; it and its elements lie in blocks of which φ holds -/
structure RBBP (w : World) (φ : Nat → Prop) (A : Option Addr) (n c : Nat) (Ls : List (List UInt8)) : Prop where
  len : Ls.length = n
  room : n ≤ c
  cap : c ≤ maxLen
  row : 0 < n → ∀ k, blk A = some k → φ k
  cells : 0 < n → ∃ ad, A = some ad ∧ ∀ j, j < n → ∃ B m d, w.cell? (ad.add j) = some (.slice B m d) ∧ RB w B m d (lb Ls j) ∧ (0 < m → ∀ k, blk B = some k → φ k)
theorem RBBP.rbb {w : World} {φ : Nat → Prop} {A : Option Addr} {n c : Nat} {Ls : List (List UInt8)} (h : RBBP w φ A n c Ls) : RBB w A n c Ls :=
  ⟨h.len, h.room, h.cap, fun hn => by
    obtain ⟨ad, ha, hc⟩ := h.cells hn
    refine ⟨ad, ha, fun j hj => ?_⟩
    obtain ⟨B, m, d, h1, h2, _⟩ := hc j hj
    exact ⟨B, m, d, h1, h2⟩⟩
theorem RBBP.ext {w w' : World} {φ : Nat → Prop} {A : Option Addr} {n c : Nat} {Ls : List (List UInt8)} (h : RBBP w φ A n c Ls) (e : Ext w w') : RBBP w' φ A n c Ls :=
  ⟨h.len, h.room, h.cap, h.row, fun hn => by
    obtain ⟨ad, ha, hc⟩ := h.cells hn
    refine ⟨ad, ha, fun j hj => ?_⟩
    obtain ⟨B, m, d, h1, h2, h3⟩ := hc j hj
    exact ⟨B, m, d, e.cell h1, h2.ext e, h3⟩⟩
theorem RBBP.imp {w : World} {φ ψ : Nat → Prop} {A : Option Addr} {n c : Nat} {Ls : List (List UInt8)} (h : RBBP w φ A n c Ls) (hi : ∀ k, k < w.heap.size → φ k → ψ k) : RBBP w ψ A n c Ls :=
  ⟨h.len, h.room, h.cap, fun hn k hk => by
    obtain ⟨ad, ha, hc⟩ := h.cells hn
    obtain ⟨B, m, d, h1, _⟩ := hc 0 hn
    have h3 := World.block_lt_of_cell? w _ h1
    rw [block_of_add] at h3
    have h4 : ad.block = k := by rw [ha] at hk; simpa [blk] using hk
    exact hi k (by omega) (h.row hn k hk), fun hn => by
    obtain ⟨ad, ha, hc⟩ := h.cells hn
    refine ⟨ad, ha, fun j hj => ?_⟩
    obtain ⟨B, m, d, h1, h2, h3⟩ := hc j hj
    exact ⟨B, m, d, h1, h2, fun hm k hk => hi k (rb_blk_lt h2 hm k hk) (h3 hm k hk)⟩⟩
/-- blocks that φ holds of stay -/
theorem RB.keep {w w' : World} {φ : Nat → Prop} {A : Option Addr} {n c : Nat} {L : List UInt8} (h : RB w A n c L) (hf : 0 < n → ∀ k, blk A = some k → φ k) (hk : ∀ k, k < w.heap.size → φ k → w'.heap[k]? = w.heap[k]?) : RB w' A n c L :=
  ⟨h.len, h.room, h.cap, fun hn => by
    obtain ⟨ad, ha, hc⟩ := h.cells hn
    refine ⟨ad, ha, fun j hj => ?_⟩
    have h1 := hc j hj
    have h3 := World.block_lt_of_cell? w _ h1
    refine (World.cell?_of_block ?_).trans h1
    rw [block_of_add] at h3 ⊢
    exact hk _ h3 (hf hn _ (by rw [ha]; rfl))⟩
theorem RBBP.keep {w w' : World} {φ : Nat → Prop} {A : Option Addr} {n c : Nat} {Ls : List (List UInt8)} (h : RBBP w φ A n c Ls) (hk : ∀ k, k < w.heap.size → φ k → w'.heap[k]? = w.heap[k]?) : RBBP w' φ A n c Ls :=
  ⟨h.len, h.room, h.cap, h.row, fun hn => by
    obtain ⟨ad, ha, hc⟩ := h.cells hn
    refine ⟨ad, ha, fun j hj => ?_⟩
    obtain ⟨B, m, d, h1, h2, h3⟩ := hc j hj
    refine ⟨B, m, d, ?_, h2.keep h3 hk, h3⟩
    have h4 := World.block_lt_of_cell? w _ h1
    refine (World.cell?_of_block ?_).trans h1
    rw [block_of_add] at h4 ⊢
    exact hk _ h4 (h.row hn _ (by rw [ha]; rfl))⟩
/-- another block is turned -/
theorem RBBP.away {w w' : World} {φ : Nat → Prop} {A : Option Addr} {n c : Nat} {Ls : List (List UInt8)} (h : RBBP w φ A n c Ls) {k : Nat} {t : TypeId} {cs : Array Value} (hb : Blk w k t cs) (hno : ∀ (i : Nat) (x : Int), cs[i]? ≠ some (.int .u8 x)) (g : w.grownBy w' (some k)) (hA : 0 < n → blk A ≠ some k) : RBBP w' φ A n c Ls :=
  ⟨h.len, h.room, h.cap, h.row, fun hn => by
    obtain ⟨ad, rfl, hc⟩ := h.cells hn
    refine ⟨ad, rfl, fun j hj => ?_⟩
    obtain ⟨B, m, d, h1, h2, h3⟩ := hc j hj
    exact ⟨B, m, d, g.cell h1 (by rw [block_of_add]; exact hA hn), h2.grown g (h2.apart5 hb hno), h3⟩⟩
/-- a row of byte slices of the call's own, from block base on; its elements lie from block b on -/
def OBF (w : World) (base b : Nat) (A : Option Addr) (n c : Nat) (Ls : List (List UInt8)) : Prop :=
  ∃ vs : List Value, w.ownsRow base 26 1 (.slice A n c) n vs ∧ Ls.length = n ∧ ∀ j, j < n → ∃ B m d, vs[j]? = some (.slice B m d) ∧ RB w B m d (lb Ls j) ∧ (0 < m → blk B ≠ blk A ∧ ∀ k, blk B = some k → b ≤ k)
section
variable {w w' : World} {base b n c : Nat} {A : Option Addr} {Ls : List (List UInt8)}
theorem OBF.none_ (w : World) (base b : Nat) : OBF w base b none 0 0 [] := ⟨[], World.ownsRow_nil w _ _ _, rfl, fun j hj => absurd hj (Nat.not_lt_zero _)⟩
theorem OBF.obc (h : OBF w base b A n c Ls) : OBC w base A n c Ls := by
  obtain ⟨vs, h1, h2, h3⟩ := h
  refine ⟨vs, h1, h2, fun j hj => ?_⟩
  obtain ⟨B, m, d, h4, h5, h6⟩ := h3 j hj
  exact ⟨B, m, d, h4, h5, fun hm => (h6 hm).1⟩
theorem OBF.lt (h : OBF w base b A n c Ls) {k : Nat} (hk : blk A = some k) : base ≤ k ∧ k < w.heap.size := h.obc.lt hk
theorem OBF.ext (h : OBF w base b A n c Ls) (e : Ext w w') : OBF w' base b A n c Ls := by
  obtain ⟨vs, h1, h2, h3⟩ := h
  refine ⟨vs, World.ownsRow.kept h1 (e.grownBy none) ?_, h2, fun j hj => ?_⟩
  · cases hb : Value.ownBlock (.slice A n c) <;> simp
  · obtain ⟨B, m, d, h4, h5, h6⟩ := h3 j hj
    exact ⟨B, m, d, h4, h5.ext e, h6⟩
theorem OBF.far (h : OBF w base b A n c Ls) {g : Nat} {t : TypeId} {cs : Array Value} (hb : Blk w g t cs) (ht : t ≠ 26) (hno : ∀ (i : Nat) (x : Int), cs[i]? ≠ some (.int .u8 x)) (e : w.grownBy w' (some g)) : OBF w' base b A n c Ls := by
  obtain ⟨vs, h1, h2, h3⟩ := h
  refine ⟨vs, World.ownsRow.kept h1 e (.inr (row_ne h1 hb ht)), h2, fun j hj => ?_⟩
  obtain ⟨B, m, d, h4, h5, h6⟩ := h3 j hj
  exact ⟨B, m, d, h4, h5.grown e (h5.apart5 hb hno), h6⟩
end
end Go.Proofs.YtkndgpjamijbbaaGreat
namespace Go.Proofs.YtkndgpjamijbbaaGreat
set_option maxRecDepth 100000
open Go Go.RowKit
/-- a later world: of the old blocks none but those of φ was turned -/
structure Upd (φ : Nat → Prop) (w w' : World) : Prop where
  os : w'.os = w.os
  tape : w'.tape = w.tape
  output : w'.output = w.output
  size : w.heap.size ≤ w'.heap.size
  block : ∀ k, k < w.heap.size → ¬ φ k → w'.heap[k]? = w.heap[k]?
theorem heap_old_ (w : World) (o : Obj) (k : Nat) (hk : k < w.heap.size) : (w.alloc o).heap[k]? = w.heap[k]? := by
  show (w.heap.push o)[k]? = _
  rw [Array.getElem?_push, if_neg (by omega)]
theorem Upd.refl (φ : Nat → Prop) (w : World) : Upd φ w w := ⟨rfl, rfl, rfl, Nat.le_refl _, fun _ _ _ => rfl⟩
theorem Upd.of_ext {φ : Nat → Prop} {w w' : World} (e : Ext w w') : Upd φ w w' := ⟨e.os, e.tape, e.output, e.size, fun k hk _ => e.block hk⟩
theorem Upd.of_grown {φ : Nat → Prop} {w w' : World} {row : Option Nat} (g : w.grownBy w' row) (h : ∀ k, row = some k → φ k) : Upd φ w w' :=
  ⟨g.os, g.tape, g.output, g.size, fun k hk hn => g.block k hk (fun e => hn (h k e.symm))⟩
theorem Upd.trans {φ : Nat → Prop} {a b c : World} (h : Upd φ a b) (k : Upd φ b c) : Upd φ a c :=
  ⟨k.os.trans h.os, k.tape.trans h.tape, k.output.trans h.output, Nat.le_trans h.size k.size, fun i hi hn => (k.block i (Nat.lt_of_lt_of_le hi h.size) hn).trans (h.block i hi hn)⟩
theorem Upd.mono {φ ψ : Nat → Prop} {w w' : World} (h : Upd φ w w') (hs : ∀ k, k < w.heap.size → φ k → ψ k) : Upd ψ w w' :=
  ⟨h.os, h.tape, h.output, h.size, fun k hk hn => h.block k hk (fun p => hn (hs k hk p))⟩
/-- nothing old was turned: what was is new -/
theorem Upd.ext {φ : Nat → Prop} {a w w' : World} (h : Ext a w) (k : Upd φ w w') (hn : ∀ i, φ i → a.heap.size ≤ i) : Ext a w' :=
  ⟨k.os.trans h.os, k.tape.trans h.tape, k.output.trans h.output, Nat.le_trans h.size k.size, fun i hi => (k.block i (Nat.lt_of_lt_of_le hi h.size) (fun p => by have := hn i p; omega)).trans (h.block hi)⟩
/-- a fact that stays whatever is turned in φ -/
def Keep (φ : Nat → Prop) (X : World → Prop) (w : World) : Prop := ∀ w', Upd φ w w' → X w'
theorem Keep.self {φ : Nat → Prop} {X : World → Prop} {w : World} (h : Keep φ X w) : X w := h w (Upd.refl φ w)
theorem Keep.step {φ : Nat → Prop} {X : World → Prop} {w w' : World} (h : Keep φ X w) (u : Upd φ w w') : Keep φ X w' := fun w'' u' => h w'' (u.trans u')
theorem Keep.ext {φ : Nat → Prop} {X : World → Prop} {w w' : World} (h : Keep φ X w) (e : Ext w w') : Keep φ X w' := h.step (Upd.of_ext e)
/-- behind a step other blocks may be turned: those are new, or were free before -/
theorem Keep.move {φ ψ : Nat → Prop} {X : World → Prop} {w w' : World} (h : Keep φ X w) (u : Upd φ w w') (hs : ∀ k, k < w.heap.size → ψ k → φ k) : Keep ψ X w' :=
  fun w'' u' => h w'' ⟨u'.os.trans u.os, u'.tape.trans u.tape, u'.output.trans u.output, Nat.le_trans u.size u'.size, fun k hk hn => (u'.block k (Nat.lt_of_lt_of_le hk u.size) (fun p => hn (hs k hk p))).trans (u.block k hk hn)⟩
theorem ownsRow_upd {φ : Nat → Prop} {w w' : World} {base n sz : Nat} {e : TypeId} {v : Value} {xs : List Value} (h : w.ownsRow base e sz v n xs) (u : Upd φ w w') (hb : ∀ k, v.ownBlock = some k → ¬ φ k) : w'.ownsRow base e sz v n xs := by
  refine ⟨h.1, ?_⟩
  rcases h.2 with h0 | ⟨g, cap, cur, rfl, h1, h2, h3⟩
  · exact .inl h0
  · have hlt : g < w.heap.size := (Array.getElem?_eq_some_iff.1 h2).1
    exact .inr ⟨g, cap, cur, rfl, h1, (u.block g hlt (hb g rfl)).trans h2, h3⟩
theorem RB.upd {φ : Nat → Prop} {w w' : World} {A : Option Addr} {n c : Nat} {L : List UInt8} (h : RB w A n c L) (u : Upd φ w w') (hA : 0 < n → ∀ k, blk A = some k → ¬ φ k) : RB w' A n c L :=
  h.keep (φ := fun k => ¬ φ k) hA (fun k hk hn => u.block k hk hn)
theorem Blk.upd {φ : Nat → Prop} {w w' : World} {g : Nat} {t : TypeId} {cs : Array Value} (h : Blk w g t cs) (u : Upd φ w w') (hg : ¬ φ g) : Blk w' g t cs := (u.block g h.lt hg).trans h
theorem OB.upd {φ : Nat → Prop} {w w' : World} {base n c : Nat} {A : Option Addr} {L : List UInt8} (h : OB w base A n c L) (u : Upd φ w w') (hA : ∀ k, blk A = some k → ¬ φ k) : OB w' base A n c L :=
  ownsRow_upd h u (by rw [ownBlock_slice]; exact hA)
theorem OBD.upd {φ : Nat → Prop} {w w' : World} {base n c : Nat} {A : Option Addr} {Ls : List (List UInt8)} (h : OBD w base A n c Ls) (u : Upd φ w w') (hb : ∀ k, base ≤ k → k < w.heap.size → ¬ φ k) : OBD w' base A n c Ls := by
  obtain ⟨vs, h1, h2, h3⟩ := h
  refine ⟨vs, ownsRow_upd h1 u (fun k hk => ?_), h2, fun j hj => ?_⟩
  · have := World.ownsRow.lt h1 k hk
    exact hb k this.1 this.2
  · obtain ⟨g, d, h4, h5, h6⟩ := h3 j hj
    exact ⟨g, d, h4, h5.upd u (fun k hk => by have := h5.lt hk; exact hb k this.1 this.2), h6⟩
theorem LevO.upd {φ : Nat → Prop} {w w' : World} {b n c : Nat} {A : Option Addr} {S : List UInt8} (h : LevO w b A n c S) (u : Upd φ w w') (hb : ∀ k, b ≤ k → k < w.heap.size → ¬ φ k) : LevO w' b A n c S := by
  obtain ⟨vs, h1, h3⟩ := h
  refine ⟨vs, ownsRow_upd h1 u (fun k hk => ?_), fun j hj => ?_⟩
  · have := World.ownsRow.lt h1 k hk
    exact hb k this.1 this.2
  · obtain ⟨g, d, h4, h5⟩ := h3 j hj
    exact ⟨g, d, h4, h5.upd u hb⟩
theorem OwnS.upd {φ : Nat → Prop} {w w' : World} {b g : Nat} {A : Option Addr} {S : List UInt8} (h : OwnS w b g A S) (u : Upd φ w w') (hb : ∀ k, b ≤ k → k < w.heap.size → ¬ φ k) (hg : ¬ φ g) (hA : ∀ k, blk A = some k → ¬ φ k) : OwnS w' b g A S := by
  obtain ⟨c, LA, lc, h1, h2, h3⟩ := h
  exact ⟨c, LA, lc, h1.upd u (fun _ => hA), h2.upd u hg, h3.upd u hb⟩
theorem RB.keep_ {φ : Nat → Prop} {w : World} {A : Option Addr} {n c : Nat} {L : List UInt8} (h : RB w A n c L) (hA : 0 < n → ∀ k, blk A = some k → ¬ φ k) : Keep φ (fun w => RB w A n c L) w := fun _ u => h.upd u hA
theorem OwnS.keep_ {φ : Nat → Prop} {w : World} {b g : Nat} {A : Option Addr} {S : List UInt8} (h : OwnS w b g A S) (hb : ∀ k, b ≤ k → k < w.heap.size → ¬ φ k) (hg : ¬ φ g) (hA : ∀ k, blk A = some k → ¬ φ k) : Keep φ (fun w => OwnS w b g A S) w := fun _ u => h.upd u hb hg hA
end Go.Proofs.YtkndgpjamijbbaaGreat
namespace Go.Proofs.YtkndgpjamijbbaaGreat
set_option maxRecDepth 100000
open Go Go.RowKit
def OwP (P : Value → Prop) (tE : TypeId) (sz : Nat) (w : World) (base : Nat) (A : Option Addr) (n c : Nat) (xs : List Value) : Prop :=
  xs.length = n * sz ∧ ((A = none ∧ n = 0 ∧ c = 0) ∨ ∃ g cs, A = some ⟨g, 0, none⟩ ∧ base ≤ g ∧ Blk w g tE cs ∧ n ≤ c ∧ c ≤ maxLen ∧ cs.size = c * sz ∧ (∀ u ∈ cs.toList, P u) ∧ cs.toList.take (n * sz) = xs)
/-- what the law of appending asks of a type -/
structure OwK (P : Value → Prop) (tS tE : TypeId) (sz by_ : Nat) (z : Value) : Prop where
  under : Tryz.prog.underlying tS = some (.slice tE)
  info : (Tryz.prog.info? tE).map (fun i => (i.zero, i.size, i.bytes)) = some (some z, sz, by_)
  size : z.cells.size = sz
  pos : 0 < sz
  zero : ∀ u ∈ z.cells.toList, P u
  fit : by_ ≤ 64
section
variable {P : Value → Prop} {tE : TypeId} {sz : Nat} {w w' : World} {base n c : Nat} {A : Option Addr} {xs : List Value}
theorem OwP.none_ (w : World) (base : Nat) : OwP P tE sz w base none 0 0 [] := ⟨by simp, .inl ⟨rfl, rfl, rfl⟩⟩
theorem OwP.upd {φ : Nat → Prop} (h : OwP P tE sz w base A n c xs) (u : Upd φ w w') (hb : ∀ k, blk A = some k → ¬ φ k) : OwP P tE sz w' base A n c xs := by
  obtain ⟨h1, h2⟩ := h
  refine ⟨h1, ?_⟩
  rcases h2 with h2 | ⟨g, cs, rfl, k2, k3, k4⟩
  · exact .inl h2
  · exact .inr ⟨g, cs, rfl, k2, k3.upd u (hb g rfl), k4⟩
theorem OwP.ext (h : OwP P tE sz w base A n c xs) (e : Ext w w') : OwP P tE sz w' base A n c xs := h.upd (Upd.of_ext (φ := fun _ => False) e) (fun _ _ h => h)
theorem OwP.grown {row : Option Nat} (h : OwP P tE sz w base A n c xs) (e : w.grownBy w' row) (hne : ∀ g, blk A = some g → some g ≠ row) : OwP P tE sz w' base A n c xs :=
  h.upd (Upd.of_grown (φ := fun k => row = some k) e (fun k hk => hk)) (fun k hk h => hne k hk h.symm)
theorem OwP.lt (h : OwP P tE sz w base A n c xs) {k : Nat} (hk : blk A = some k) : base ≤ k ∧ k < w.heap.size := by
  rcases h.2 with ⟨rfl, _⟩ | ⟨g, cs, rfl, k2, k3, _⟩
  · cases hk
  · have e : some g = some k := hk
    injection e with e
    subst e
    exact ⟨k2, k3.lt⟩
theorem OwP.blk_ (h : OwP P tE sz w base A n c xs) {k : Nat} (hk : blk A = some k) : ∃ cs, Blk w k tE cs ∧ ∀ u ∈ cs.toList, P u := by
  rcases h.2 with ⟨rfl, _⟩ | ⟨g, cs, rfl, k2, k3, _, _, _, k7, _⟩
  · cases hk
  · have e : some g = some k := hk
    injection e with e
    subst e
    exact ⟨cs, k3, k7⟩
theorem OwP.ne_blk (h : OwP P tE sz w base A n c xs) {k : Nat} {t : TypeId} {cs : Array Value} (hb : Blk w k t cs) (ht : t ≠ tE) : blk A ≠ some k := by
  intro e
  obtain ⟨cs', h1, _⟩ := h.blk_ e
  exact (hb.ne_ h1 ht) rfl
theorem OwP.room (h : OwP P tE sz w base A n c xs) : n ≤ c ∧ c ≤ maxLen := by
  rcases h.2 with ⟨_, rfl, rfl⟩ | ⟨g, cs, _, _, _, k4, k5, _⟩
  · exact ⟨Nat.le_refl _, Nat.zero_le _⟩
  · exact ⟨k4, k5⟩
theorem OwP.at_ (h : OwP P tE sz w base A n c xs) (hn : 0 < n) (hs : 0 < sz) : ∃ g, A = some ⟨g, 0, none⟩ ∧ ∀ j u, xs[j]? = some u → w.cell? ⟨g, j, none⟩ = some u := by
  rcases h.2 with ⟨_, h0, _⟩ | ⟨g, cs, rfl, k2, k3, _, _, _, _, k8⟩
  · omega
  · refine ⟨g, rfl, fun j u hu => ?_⟩
    have hj : j < n * sz := by
      rcases Nat.lt_or_ge j (n * sz) with h1 | h1
      · exact h1
      · rw [List.getElem?_eq_none (by rw [h.1]; exact h1)] at hu; cases hu
    rw [← k8, List.getElem?_take_of_lt hj, Array.getElem?_toList] at hu
    exact k3.cell hu
end
theorem zeros_P {P : Value → Prop} {zc : Array Value} (h : ∀ u ∈ zc.toList, P u) (h0 : 0 < zc.size) (n : Nat) : ∀ u ∈ (Builtin.zeroCells zc n).toList, P u := by
  intro u hu
  obtain ⟨i, hi, e⟩ := List.getElem_of_mem hu
  have hi' : i < n * zc.size := by
    have h1 : (Builtin.zeroCells zc n).toList.length = n * zc.size := by rw [Array.length_toList, size_zeroCells]
    omega
  have e2 : (Builtin.zeroCells zc n).toList[i]? = some (zc[i % zc.size]!) := by
    rw [Array.getElem?_toList]
    unfold Builtin.zeroCells
    rw [Array.getElem?_map, Array.getElem?_range]
    simp [hi']
  rw [List.getElem?_eq_getElem hi, e] at e2
  injection e2 with e2
  rw [e2]
  have hm := Nat.mod_lt i h0
  refine h _ ?_
  rw [getElem!_pos zc (i % zc.size) hm]
  exact Array.getElem_mem_toList hm
theorem run_app_p {P : Value → Prop} {tS tE : TypeId} {sz by_ : Nat} {z : Value} (K : OwK P tS tE sz by_ z) (ty : TypeId) {w : World} {base n c : Nat} {A : Option Addr} {xs : List Value} (hown : OwP P tE sz w base A n c xs) {ad : Addr} {m d : Nat} {news : List Value} (hl : news.length = m * sz) (hnews : ∀ j u, news[j]? = some u → w.cell? (ad.add j) = some u) (h1 : ∀ u ∈ news, u.oneCell' = true) (hsh : ∀ u ∈ news, P u) (hnm : n + m ≤ 1000000) (hbase : base ≤ w.heap.size) (hm : 0 < m) :
    ∃ A' c' w', (Builtin.append_ #[tS, tS] ty #[.slice A n c, .slice (some ad) m d]).run Tryz.prog w = .ok (.slice A' (n + m) c') w' ∧ OwP P tE sz w' base A' (n + m) c' (xs ++ news) ∧ w.grownBy w' (blk A) ∧ (blk A' = blk A ∨ blk A' = some w.heap.size) := by
  obtain ⟨i0, hi0, hz0, hz1, hz2⟩ := info_parts K.info
  have hzn : z.cells.size = sz := K.size
  have hl1 := hown.1
  have hlen : (xs ++ news).length = (n + m) * sz := by rw [List.length_append, hl1, hl, Nat.add_mul]
  have hby : (n + m) * by_ ≤ 64000000 := Nat.mul_le_mul hnm K.fit
  have grown : ∀ (old : Nat), old < n + m → ∀ (row : Option Nat),
      OwP P tE sz (w.drew.alloc (.cells (xs.toArray ++ news.toArray ++ Builtin.zeroCells z.cells (grownCap w (n + m) old tE - (n + m))) tE)) base (some ⟨w.heap.size, 0, none⟩) (n + m) (grownCap w (n + m) old tE) (xs ++ news) ∧
      w.grownBy (w.drew.alloc (.cells (xs.toArray ++ news.toArray ++ Builtin.zeroCells z.cells (grownCap w (n + m) old tE - (n + m))) tE)) row := by
    intro old ho row
    have hge := grownCap_ge w (n + m) old tE
    have hcm : grownCap w (n + m) old tE ≤ maxLen := grownCap_le_maxLen w (n + m) old tE (small_maxLen hnm)
    generalize grownCap w (n + m) old tE = gc at *
    refine ⟨⟨hlen, .inr ⟨w.heap.size, _, rfl, hbase, heap_alloc_new w.drew _, hge, hcm, ?_, ?_, ?_⟩⟩, ⟨rfl, rfl, rfl, by simp, fun k hk _ => heap_old_ w.drew _ k hk⟩⟩
    · simp only [Array.size_append, List.size_toArray, size_zeroCells, hzn, hl1, hl]
      rw [← Nat.add_mul, ← Nat.add_mul]
      congr 1
      omega
    · simp only [Array.toList_append]
      intro u hu
      rw [List.mem_append, List.mem_append] at hu
      rcases hu with (hu | hu) | hu
      · rcases hown.2 with ⟨_, h0, _⟩ | ⟨g, cs, _, _, _, _, _, _, k7, k8⟩
        · rw [List.eq_nil_of_length_eq_zero (show xs.length = 0 by rw [hl1, h0, Nat.zero_mul])] at hu
          cases hu
        · have hu2 : u ∈ xs := hu
          rw [← k8] at hu2
          exact k7 u (List.mem_of_mem_take hu2)
      · exact hsh u hu
      · exact zeros_P K.zero (by rw [hzn]; exact K.pos) _ u hu
    · simp only [Array.toList_append]
      rw [← hlen]
      exact List.take_left
  rcases hown.2 with ⟨rfl, rfl, rfl⟩ | ⟨g, cs, rfl, hbg, hg, hnc, hcm, hcs, hsc, htake⟩
  · have hx : xs = [] := List.eq_nil_of_length_eq_zero (by rw [hl1, Nat.zero_mul])
    subst hx
    have hr := run_append_nil (P := Tryz.prog) w tS ty tE i0 z K.under hi0 hz0 ad m d news (by rw [hl, hz1]) hnews hm (by omega) (by rw [hz2]; simp only [Nat.zero_add] at hby; omega)
    have hgr := grown 0 (by omega) (blk none)
    simp only [Nat.zero_add, List.nil_append, Array.empty_append] at hgr ⊢
    exact ⟨_, _, _, hr, hgr.1, hgr.2, .inr rfl⟩
  · by_cases hroom : n + m ≤ c
    · have hmul : n * sz + m * sz ≤ c * sz := by rw [← Nat.add_mul]; exact Nat.mul_le_mul_right _ hroom
      have hfit : n * i0.size + news.length ≤ cs.size := by rw [hl, hcs, hz1]; exact hmul
      have hr := run_append_room (P := Tryz.prog) w tS ty tE i0 K.under hi0 g n c cs hg ad m d news (by rw [hl, hz1]) hnews h1 hroom hfit
      rw [hz1] at hr hfit
      refine ⟨_, _, _, hr, ⟨hlen, .inr ⟨g, _, rfl, hbg, setRow_heap w g cs _ _ _ hg, hroom, hcm, ?_, ?_, ?_⟩⟩, ⟨rfl, rfl, rfl, by simp, fun k _ hk => setRow_other w g k _ (fun e => hk (by simp [blk, e]))⟩, .inl rfl⟩
      · simp only [List.size_toArray, List.length_append, List.length_take, List.length_drop, Array.length_toList]
        omega
      · intro u hu
        simp only [List.mem_append] at hu
        rcases hu with (hu | hu) | hu
        · exact hsc u (List.mem_of_mem_take hu)
        · exact hsh u hu
        · exact hsc u (List.mem_of_mem_drop hu)
      · rw [htake, ← hlen]
        exact List.take_left
    · have holds : ∀ j u, xs[j]? = some u → w.cell? ((⟨g, 0, none⟩ : Addr).add j) = some u := by
        intro j u hu
        have hj : j < n * sz := by
          rcases Nat.lt_or_ge j (n * sz) with h1 | h1
          · exact h1
          · rw [List.getElem?_eq_none (by omega)] at hu; cases hu
        rw [← htake, List.getElem?_take_of_lt hj, Array.getElem?_toList] at hu
        rw [add_plain]
        exact hg.cell hu
      have hr := run_append_grow (P := Tryz.prog) w tS ty tE i0 z K.under hi0 hz0 ⟨g, 0, none⟩ n c xs (by rw [hl1, hz1]) holds ad m d news (by rw [hl, hz1]) hnews (by omega) (by omega) (growslice_fits (by omega) (by rw [hz2]; omega))
      have hgr := grown c (by omega) (blk (some ⟨g, 0, none⟩))
      exact ⟨_, _, _, hr, hgr.1, hgr.2, .inr rfl⟩
theorem appp_law {P : Value → Prop} {tS tE : TypeId} {sz by_ : Nat} {z : Value} (K : OwK P tS tE sz by_ z) {ops : Array Oper} {rest : List Oper} {o : Oper} {a : Act} {Q : Exit → Act → World → Prop} {w : World} (hgd : o.guard = none) {s x : Operand} (ho : o.op = .call { callee := .builtin .append, args := #[s, x], argTypes := #[tS, tS] })
    {A : Option Addr} {n c : Nat} (hs : a.eval s = .slice A n c) {ad : Addr} {m d : Nat} (hx : a.eval x = .slice (some ad) m d) {base : Nat} {xs news : List Value} (hown : OwP P tE sz w base A n c xs) (hl : news.length = m * sz) (hnews : ∀ j u, news[j]? = some u → w.cell? (ad.add j) = some u) (h1 : ∀ u ∈ news, u.oneCell' = true) (hsh : ∀ u ∈ news, P u) (hnm : n + m ≤ 1000000) (hbase : base ≤ w.heap.size) (hm : 0 < m)
    (h : ∀ A' c' w', OwP P tE sz w' base A' (n + m) c' (xs ++ news) → w.grownBy w' (blk A) → (blk A' = blk A ∨ blk A' = some w.heap.size) → wpList Tryz.prog ops Q rest (a.put o.dst (.slice A' (n + m) c')) w') : wpList Tryz.prog ops Q (o :: rest) a w := by
  obtain ⟨A', c', w', hrun, r1, r2, r3⟩ := run_app_p (d := d) K o.type hown hl hnews h1 hsh hnm hbase hm
  refine run_law hgd (v := .slice A' (n + m) c') (w' := w') ?_ (h A' c' w' r1 r2 r3)
  unfold execOp
  simp only [ho, resolve, invoke, builtin, Sem.run_bind, Sem.run_pure, Result.andThen_ok, List.map_toArray, List.map_cons, List.map_nil, hs, hx, hrun]
end Go.Proofs.YtkndgpjamijbbaaGreat
namespace Go.Proofs.YtkndgpjamijbbaaGreat
set_option maxRecDepth 100000
open Go Go.RowKit
/-- a fact that stays whatever is turned in φ -/
def MP.kp {φ : Nat → Prop} (p : Value → World → Prop) : MP (Upd φ) := ⟨fun u w => Keep φ (p u) w, fun _ _ _ e h => h.step e⟩
def J1 (φ : Nat → Prop) (w0 : World) (N k t : Nat) (Z : Value → World → Prop) (done : Nat → Bool) (a : Act) (w : World) : Prop :=
  Upd φ w0 w ∧ a.tmps.size = N ∧ (done k = false → Ext w0 w) ∧ (done k = true → Z (a.eval (.tmp t)) w)
section
variable {P : Program} {ops : Array Oper} {H : List Tmp} {φ : Nat → Prop} {F : List (MP (Upd φ))} {a0 : Act} {w0 : World} {i N k t : Nat} {o : Oper} {Z : Value → World → Prop}
theorem step1 (hZ : ∀ v w w', Ext w w' → Z v w → Z v w') (ho : o.guard = none) (hi : (i != k && o.dst != some t) = true) (h : ∀ (done : Nat → Bool) (a : Act) (w : World), Upd φ w0 w → (∀ j, (depsOf o).contains j = true → done j = true) → Known ops H F a0 done a w →
    Runs P o a.eval w fun v w' => Ext w w' ∧ factAt F i v w') : StepOKA P ops H F (J1 φ w0 N k t Z) a0 i o := by
  intro done a w hJ _ hd hk
  simp only [Bool.and_eq_true, bne_iff_ne, ne_eq] at hi
  rw [if_pos (by simp [Region.wanted, ho])]
  refine (h done a w hJ.1 (deps_done hd) hk).mono fun v w' hg => ⟨fun j _ u hu => factAt_keep (Upd.of_ext hg.1) j u hu, ⟨hJ.1.trans (Upd.of_ext hg.1), by rw [put_size]; exact hJ.2.1, fun hf => ?_, fun hf => ?_⟩, hg.2⟩
  · unfold setDone at hf
    rw [if_neg (Ne.symm hi.1)] at hf
    exact (hJ.2.2.1 hf).trans hg.1
  · unfold setDone at hf
    rw [if_neg (Ne.symm hi.1)] at hf
    have e : (a.put o.dst v).eval (.tmp t) = a.eval (.tmp t) := put_get_ne _ _ _ _ hi.2
    rw [e]
    exact hZ _ _ _ hg.1 (hJ.2.2.2 hf)
theorem stepT (ho : o.guard = none) (hd : o.dst = some t) (hN : t < N) (h : ∀ (done : Nat → Bool) (a : Act) (w : World), Ext w0 w → (∀ j, (depsOf o).contains j = true → done j = true) → Known ops H F a0 done a w →
    Runs P o a.eval w fun v w' => Upd φ w w' ∧ Z v w' ∧ factAt F k v w') : StepOKA P ops H F (J1 φ w0 N k t Z) a0 k o := by
  intro done a w hJ hn hd' hk
  rw [if_pos (by simp [Region.wanted, ho])]
  refine (h done a w (hJ.2.2.1 hn) (deps_done hd') hk).mono fun v w' hg => ⟨fun j _ u hu => factAt_keep hg.1 j u hu, ⟨hJ.1.trans hg.1, by rw [put_size]; exact hJ.2.1, fun hf => ?_, fun _ => ?_⟩, hg.2.2⟩
  · unfold setDone at hf
    rw [if_pos rfl] at hf
    cases hf
  · have e : (a.put o.dst v).eval (.tmp t) = v := by rw [hd]; exact put_get _ _ _ (by rw [hJ.2.1]; exact hN)
    rw [e]
    exact hg.2.1
end
theorem par_one {ops : Array Oper} {id n : Nat} {a : Act} {w : World} {Q : Exit → Act → World → Prop} (φ : Nat → Prop) (k t : Nat) (Z : Value → World → Prop)
    (hB : parB ops n = true) (F : List (MP (Upd φ)))
    (hsz : (dsts ops).all (fun t => decide (t < a.tmps.size)) = true) (ht : dstAt ops k = some t) (hkn : k < n)
    (steps : StepsOKA Tryz.prog ops ((ops.toList.take n).filterMap (·.dst)) F (J1 φ w a.tmps.size k t Z) a 0 (ops.toList.take n))
    (fin : ∀ (vals : Nat → Value) (w' : World), Upd φ w w' → Z (vals k) w' → (∀ j, j < n → ∀ d, dstAt ops j = some d → factAt F j (vals j) w') → wpList Tryz.prog ops Q (ops.toList.drop n) (putAll a 0 (ops.toList.take n) vals) w') :
    (Code.region id ops true).wp Tryz.prog Q a w := by
  refine par_regionA (by kernel_rfl) hB F (J1 φ w a.tmps.size k t Z) ⟨Upd.of_ext (Ext.refl w).drew, rfl, fun _ => (Ext.refl w).drew, fun h => by cases h⟩ (fun t ht => by simpa using List.all_eq_true.1 hsz t ht) steps ?_
  rintro vals w' ⟨a', ⟨h1, _, _, h3⟩, h4⟩ h5
  refine fin vals w' h1 ?_ h5
  rw [h4 k t ht]
  exact h3 (by simpa using hkn)
/-- an append to an own row, as it runs, in a region -/
theorem Runs.appp {P : Value → Prop} {tS tE : TypeId} {sz by_ : Nat} {z : Value} (K : OwK P tS tE sz by_ z) {o : Oper} {ρ : Operand → Value} {w : World} {G : Value → World → Prop} {s x : Operand} (ho : o.op = .call { callee := .builtin .append, args := #[s, x], argTypes := #[tS, tS] })
    {A : Option Addr} {n c : Nat} (hs : ρ s = .slice A n c) {ad : Addr} {m d : Nat} (hx : ρ x = .slice (some ad) m d) {base : Nat} {xs news : List Value} (hown : OwP P tE sz w base A n c xs) (hl : news.length = m * sz) (hnews : ∀ j u, news[j]? = some u → w.cell? (ad.add j) = some u) (h1 : ∀ u ∈ news, u.oneCell' = true) (hsh : ∀ u ∈ news, P u) (hnm : n + m ≤ 1000000) (hbase : base ≤ w.heap.size) (hm : 0 < m)
    (h : ∀ A' c' w', OwP P tE sz w' base A' (n + m) c' (xs ++ news) → w.grownBy w' (blk A) → (blk A' = blk A ∨ blk A' = some w.heap.size) → G (.slice A' (n + m) c') w') : Runs Tryz.prog o ρ w G := by
  obtain ⟨A', c', w', hrun, r1, r2, r3⟩ := run_app_p (d := d) K o.type hown hl hnews h1 hsh hnm hbase hm
  refine Runs.of_run (r := .slice A' (n + m) c') (w' := w') ?_ (h A' c' w' r1 r2 r3)
  unfold execOp
  simp only [ho, resolve, invoke, builtin, Sem.run_bind, Sem.run_pure, Result.andThen_ok, List.map_toArray, List.map_cons, List.map_nil, hs, hx, hrun]
end Go.Proofs.YtkndgpjamijbbaaGreat
namespace Go.Proofs.YtkndgpjamijbbaaGreat
set_option maxRecDepth 100000
open Go Go.RowKit
theorem OBC.store {w a : World} {base n c g z y : Nat} {E : Option Addr} {Ls : List (List UInt8)} {Y : List UInt8} (h : OBC w base (some ⟨g, 0, none⟩) n c Ls) (hE : RB w E z y Y) (hne : 0 < z → blk E ≠ some g) (i : Nat) (hi : i < n) (ha : Ext a w) (hab : a.heap.size ≤ base) :
    OBC (w.setCell ⟨g, i, none⟩ (.slice E z y)) base (some ⟨g, 0, none⟩) n c (Ls.set i Y) ∧ Ext a (w.setCell ⟨g, i, none⟩ (.slice E z y)) := by
  have hlt := h.lt (k := g) rfl
  obtain ⟨vs, h1, h2, h3⟩ := h
  have hvl : vs.length = n := by have := h1.1; omega
  have s := World.ownsRow.stored h1 i (.slice E z y)
  refine ⟨⟨vs.set i (.slice E z y), s.1, by simp [h2], fun j hj => ?_⟩, ha.then_grown s.2 (by intro k hk; cases hk; omega)⟩
  rw [lb_set (by omega)]
  by_cases hji : j = i
  · subst hji
    rw [if_pos rfl]
    exact ⟨E, z, y, by simp [hvl, hj], hE.grown s.2 hne, hne⟩
  · rw [if_neg hji]
    obtain ⟨B, m, d, h4, h5, h6⟩ := h3 j hj
    exact ⟨B, m, d, by rw [List.getElem?_set_ne (Ne.symm hji)]; exact h4, h5.grown s.2 h6, h6⟩
end Go.Proofs.YtkndgpjamijbbaaGreat
namespace Go.Proofs.YtkndgpjamijbbaaGreat
set_option maxRecDepth 100000
/-- the greatest power of two below a number -/
def splitN (n : Nat) : Nat := if n < 2 then 0 else 2 ^ Nat.log2 (n - 1)
theorem splitN_small {n : Nat} (h : n < 2) : splitN n = 0 := by unfold splitN; rw [if_pos h]
theorem splitN_in {n : Nat} (h : 2 ≤ n) : 0 < splitN n ∧ splitN n < n := by
  unfold splitN
  rw [if_neg (by omega)]
  refine ⟨Nat.pow_pos (by omega), ?_⟩
  have := Nat.log2_self_le (n := n - 1) (by omega)
  omega
/-- a power of two that is below n, and twice is not -/
theorem splitN_is {n k e : Nat} (hk : k = 2 ^ e) (h1 : k < n) (h2 : n ≤ 2 * k) : splitN n = k := by
  have hp : 0 < 2 ^ e := Nat.pow_pos (by omega)
  unfold splitN
  rw [if_neg (by omega), hk]
  congr 1
  refine (Nat.log2_eq_iff (by omega)).2 ⟨by omega, ?_⟩
  rw [Nat.pow_succ]
  omega
def leafH (b : List UInt8) : List UInt8 := tagged 0 b
def nodeH (l r : List UInt8) : List UInt8 := tagged 1 (l ++ r)
/-- the hash of leaves -/
def rootL (l : List (List UInt8)) : List UInt8 :=
  if h : l.length < 2 then (match l with | [] => sha [] | a :: _ => a) else nodeH (rootL (l.take (splitN l.length))) (rootL (l.drop (splitN l.length)))
termination_by l.length
decreasing_by
  · have := splitN_in (n := l.length) (by omega)
    rw [List.length_take]
    omega
  · have := splitN_in (n := l.length) (by omega)
    rw [List.length_drop]
    omega
theorem rootL_nil : rootL [] = sha [] := by
  unfold rootL
  rfl
theorem rootL_one (a : List UInt8) : rootL [a] = a := by
  unfold rootL
  rfl
theorem rootL_more {l : List (List UInt8)} (h : 2 ≤ l.length) : rootL l = nodeH (rootL (l.take (splitN l.length))) (rootL (l.drop (splitN l.length))) := by
  rw [rootL]
  rw [dif_neg (by omega)]
theorem rootL_len {l : List (List UInt8)} (h : ∀ a ∈ l, a.length = 32) : (rootL l).length = 32 := by
  by_cases h2 : 2 ≤ l.length
  · rw [rootL_more h2]
    exact tagged_length _ _
  · match l, h2 with
    | [], _ => rw [rootL_nil]; exact sha_length _
    | [a], _ => rw [rootL_one]; exact h a (List.mem_singleton.2 rfl)
    | _ :: _ :: _, h2 => simp at h2
theorem leaf_len (l : List (List UInt8)) : ∀ a ∈ l.map leafH, a.length = 32 := by
  intro a ha
  rw [List.mem_map] at ha
  obtain ⟨b, _, rfl⟩ := ha
  exact tagged_length _ _
end Go.Proofs.YtkndgpjamijbbaaGreat
namespace Go.Proofs.YtkndgpjamijbbaaGreat
set_option maxRecDepth 100000
open Go Go.RowKit
theorem add_add_ (ad : Addr) (j i : Nat) : (ad.add j).add i = ad.add (j + i) := by
  unfold Addr.add
  by_cases hj : j = 0 <;> by_cases hi : i = 0 <;> simp [hj, hi]
  omega
/-- 'l[i:j]' -/
theorem RBB.cut {w : World} {A A' : Option Addr} {n c c' : Nat} {Ls : List (List UInt8)} (h : RBB w A n c Ls) {i j : Nat} (hij : i ≤ j) (hj : j ≤ n) (hc : c' = c - i) (hA : i < j → A' = A.map (·.add i)) : RBB w A' (j - i) c' ((Ls.take j).drop i) := by
  have hl := h.len
  have hr := h.room
  have hm := h.cap
  refine ⟨by rw [List.length_drop, List.length_take]; omega, by omega, by omega, fun h0 => ?_⟩
  obtain ⟨ad, rfl, hcl⟩ := h.cells (by omega)
  refine ⟨ad.add i, by rw [hA (by omega)]; rfl, fun q hq => ?_⟩
  obtain ⟨B, m, d, h1, h2⟩ := hcl (i + q) (by omega)
  refine ⟨B, m, d, by rw [add_add_]; exact h1, ?_⟩
  have e : lb ((Ls.take j).drop i) q = lb Ls (i + q) := by
    unfold lb
    simp only [List.getD_eq_getElem?_getD, List.getElem?_drop]
    rw [List.getElem?_take_of_lt (by omega)]
  rw [e]
  exact h2
end Go.Proofs.YtkndgpjamijbbaaGreat

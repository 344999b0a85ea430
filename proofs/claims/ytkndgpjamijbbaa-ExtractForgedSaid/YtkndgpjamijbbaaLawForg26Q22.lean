/-
  Rows of the call's own that bear the run-time's mark behind their cells (what '[]byte(s)' makes); appends to them. Plain theorems. A region that draws its order, whose operations append, one behind the other, to rows of the call's own. Plain theorems. check.Right, check.Body, check.Same; ref10's Right, Body, Same, walked. Structs in regions that draw their order: a part of a block is loaded at once; a value whose slices are known by what they read. Plain theorems. check.Sign, check.Verify; ref10's Verify, walked. check.Put, check.Encode; ref10's Put, walked. A row of byte slices of the call's own, each of its own block, all unlike. Plain theorems. law5.turned, walked. Package manifest, walked: name, Right, Encode. manifest.Encode, walked. A region whose calls turn one object of the call's own, one behind the other, with other operations between in any order. Plain theorems. manifest.Decode, walked. Rows of byte slices, and where they lie.
-/
import Derived.Test.YtkndgpjamijbbaaLawForg26Q21
import Derived.Test.YtkndgpjamijbbaaLawForg26Q12
import Derived.ArgAppend
import Derived.Lib.ConvBytes
import Derived.Test.YtkndgpjamijbbaaLawForg26Q2
import Derived.Test.YtkndgpjamijbbaaLawForg26Q17
import Derived.Lib.AppendZerosOnto
import Derived.Test.YtkndgpjamijbbaaLawForg26Q5
import Derived.Test.YtkndgpjamijbbaaLawForg26Q19
import Derived.Deep.MidRow
import Derived.Laws.CopyOwn
import Derived.Test.YtkndgpjamijbbaaLawForg26Q16
namespace Go.Proofs.Ytkndgpjamijbbaa
set_option maxRecDepth 100000
open Go Go.RowKit
def OM (w : World) (base : Nat) (A : Option Addr) (n c : Nat) (L : List UInt8) : Prop :=
  ∃ g, A = some ⟨g, 0, none⟩ ∧ base ≤ g ∧ g < w.heap.size ∧ RB w A n c L ∧ ∀ j, j < c → (w.cell? ⟨g, j, none⟩).isSome = true ∧ w.frozen? ⟨g, j, none⟩ = false
theorem OM.rb {w : World} {base n c : Nat} {A : Option Addr} {L : List UInt8} (h : OM w base A n c L) : RB w A n c L := h.choose_spec.2.2.2.1
theorem OM.base {w : World} {base base' n c : Nat} {A : Option Addr} {L : List UInt8} (h : OM w base A n c L) (hb : base' ≤ base) : OM w base' A n c L := by
  obtain ⟨g, h1, h2, h3⟩ := h
  exact ⟨g, h1, Nat.le_trans hb h2, h3⟩
theorem OM.ext {w w' : World} {base n c : Nat} {A : Option Addr} {L : List UInt8} (h : OM w base A n c L) (e : Ext w w') : OM w' base A n c L := by
  obtain ⟨g, h1, h2, h3, h4, h5⟩ := h
  refine ⟨g, h1, h2, Nat.lt_of_lt_of_le h3 e.size, h4.ext e, fun j hj => ?_⟩
  rw [World.cell?_of_block (a := ⟨g, j, none⟩) (e.block h3), World.frozen?_of_block (a := ⟨g, j, none⟩) (e.block h3)]
  exact h5 j hj
/-- nothing was turned but, perhaps, cells behind place n of one row from block b on -/
def Aps (b n : Nat) (w w' : World) : Prop := Ext w w' ∨ ∃ g, b ≤ g ∧ g < w.heap.size ∧ w.grownBy w' (some g) ∧ (∀ j, j < n → w'.cell? ⟨g, j, none⟩ = w.cell? ⟨g, j, none⟩) ∧ (∀ j, (w.cell? ⟨g, j, none⟩).isSome = true → (w'.cell? ⟨g, j, none⟩).isSome = true) ∧ ∀ j, w'.frozen? ⟨g, j, none⟩ = w.frozen? ⟨g, j, none⟩
theorem Aps.ext_ {a w w' : World} {b n : Nat} (h : Aps b n w w') (e : Ext a w) (hb : a.heap.size ≤ b) : Ext a w' := by
  rcases h with h | ⟨g, h1, _, h3, _⟩
  · exact e.trans h
  · exact e.then_grown h3 (by intro k hk; cases hk; omega)
theorem Aps.pre {w w1 w' : World} {b n : Nat} (e : Ext w w1) (h : Aps b n w1 w') : Aps b n w w' := by
  rcases h with h | ⟨g, h1, h2, h3, h4, h5, h6⟩
  · exact .inl (e.trans h)
  · rcases Nat.lt_or_ge g w.heap.size with hg | hg
    · have hc := fun j => World.cell?_of_block (a := ⟨g, j, none⟩) (e.block hg)
      have hf := fun j => World.frozen?_of_block (a := ⟨g, j, none⟩) (e.block hg)
      exact .inr ⟨g, h1, hg, (e.grownBy _).trans h3, fun j hj => (h4 j hj).trans (hc j), fun j hj => h5 j (by rw [hc]; exact hj), fun j => (h6 j).trans (hf j)⟩
    · exact .inl (e.then_grown h3 (by intro k hk; cases hk; exact hg))
theorem OM.conv (w : World) (s : List UInt8) (hs : s.length ≤ 1000000) : ∃ c w', (convert 9 22 (.string (str s))).run Try.prog w = .ok (.slice (some ⟨w.heap.size, 0, none⟩) s.length c) w' ∧ OM w' w.heap.size (some ⟨w.heap.size, 0, none⟩) s.length c s ∧ Ext w w' := by
  have h := Lib.run_convert_string_bytes (P := Try.prog) w 9 22 5 (str s) Try.underlying9 Try.underlying22 Try.underlying5
  have hz : (str s).size = s.length := str_size s
  rw [hz] at h
  have hat := Lib.bytesWorld_at_new w 5 (str s)
  have hsz : (Lib.bytesCells w 5 (str s)).size = grownCap w s.length 0 5 := by
    have := grownCap_ge w s.length 0 5
    unfold Lib.bytesCells
    simp [size_zeroCells, hz, Value.cells]
    omega
  refine ⟨_, _, h, ⟨w.heap.size, rfl, Nat.le_refl _, by rw [Lib.bytesWorld_size]; omega, ⟨rfl, grownCap_ge _ _ _ _, grownCap_le_maxLen _ _ _ _ (small_maxLen hs), fun hn => ⟨_, rfl, fun j hj => ?_⟩⟩, fun j hj => ⟨?_, ?_⟩⟩, ⟨rfl, rfl, rfl, by rw [Lib.bytesWorld_size]; omega, fun k hk => Lib.bytesWorld_at_old w _ _ k hk⟩⟩
  · rw [add_plain, Lib.bytesWorld_cell w _ _ j (by rw [hz]; exact hj)]
    rfl
  · unfold World.cell?
    rw [hat]
    simp [hsz, hj]
  · unfold World.frozen?
    rw [hat]
    simp [hsz]
    omega
end Go.Proofs.Ytkndgpjamijbbaa
namespace Go.Proofs.Ytkndgpjamijbbaa
set_option maxRecDepth 100000
open Go Go.RowKit
def apPairs (K : List (Nat × Nat)) (i : Nat) (o : Oper) : Bool := K.all fun jk => jk.1 != i || (depsOf o).contains jk.2 || (depsOf o).any fun p => K.contains (p, jk.2)
def JQ (w0 : World) (K : List (Nat × Nat)) (done : Nat → Bool) (w : World) : Prop := Ext w0 w ∧ ∀ j k, K.contains (j, k) = true → done j = true → done k = true
section
variable {ops : Array Oper} {H : List Tmp} {F : List (MP Ext)} {a0 : Act} {w0 : World} {i : Nat} {K : List (Nat × Nat)} {o : Oper}
theorem JQ.set {done : Nat → Bool} {w w' : World} (h : JQ w0 K done w) (e : Ext w0 w') (hi : apPairs K i o = true) (hd : ∀ j, (depsOf o).contains j = true → done j = true) : JQ w0 K (setDone done i) w' := by
  refine ⟨e, fun j k hjk hdj => ?_⟩
  unfold setDone at hdj ⊢
  by_cases hki : k = i
  · rw [if_pos hki]
  · rw [if_neg hki]
    by_cases hji : j = i
    · subst hji
      have h1 := List.all_eq_true.1 hi (j, k) (List.contains_iff_mem.1 hjk)
      simp only [bne_self_eq_false, Bool.false_or, Bool.or_eq_true, List.any_eq_true] at h1
      rcases h1 with h1 | ⟨p, h1, h2⟩
      · exact hd k h1
      · exact h.2 p k h2 (hd p (List.contains_iff_mem.2 h1))
    · rw [if_neg hji] at hdj
      exact h.2 j k hjk hdj
end
end Go.Proofs.Ytkndgpjamijbbaa
namespace Go.Proofs.Ytkndgpjamijbbaa
set_option maxRecDepth 100000
open Go Go.RowKit
def rightC (x : Int) (R : List UInt8) : Bool := decide (0 ≤ x) && decide (x ≤ 256) && decide (R.length = 32)
def bodyC (t : List UInt8) (x : Int) (R : List UInt8) : List UInt8 := if rightC x R = true then t ++ (bytesOf (keyW x) ++ R) else []
theorem rightC_true {x : Int} {R : List UInt8} (h : rightC x R = true) : 0 ≤ x ∧ x ≤ 256 ∧ R.length = 32 := by
  simpa [rightC, and_assoc] using h
end Go.Proofs.Ytkndgpjamijbbaa
namespace Go.Proofs.Ytkndgpjamijbbaa
set_option maxRecDepth 100000
open Go Go.RowKit
/-- a cell of a struct's value: one that is known, bytes that are read, rows of bytes that are read -/
inductive Sh where
  | val (v : Value)
  | b8 (n : Nat) (L : List UInt8)
  | bb (n : Nat) (Ls : List (List UInt8))
def Sh.all : List Sh → (List Value → Prop) → World → Prop
  | [], k, _ => k []
  | .val v :: r, k, w => Sh.all r (fun vs => k (v :: vs)) w
  | .b8 n L :: r, k, w => ∃ A c, RB w A n c L ∧ Sh.all r (fun vs => k (.slice A n c :: vs)) w
  | .bb n Ls :: r, k, w => ∃ A c, RBB w A n c Ls ∧ Sh.all r (fun vs => k (.slice A n c :: vs)) w
def MP.rk (n : Nat) (L : List UInt8) : MP Ext := ⟨fun u w => ∃ A c, u = .slice A n c ∧ RB w A n c L, fun _ _ _ e ⟨A, c, h1, h2⟩ => ⟨A, c, h1, h2.ext e⟩⟩
def MP.rws (n : Nat) (Ls : List (List UInt8)) : MP Ext := ⟨fun u w => ∃ A c, u = .slice A n c ∧ RBB w A n c Ls, fun _ _ _ e ⟨A, c, h1, h2⟩ => ⟨A, c, h1, h2.ext e⟩⟩
def MP.bk (b : Nat) (t : TypeId) (cs : Array Value) : MP Ext := ⟨fun u w => ∃ g, u = .pointer (some ⟨g, 0, none⟩) ∧ Blk w g t cs ∧ b ≤ g, fun _ _ _ e ⟨g, h1, h2, h3⟩ => ⟨g, h1, h2.ext e, h3⟩⟩
/-- a part of a block, loaded at once -/
theorem load_part {P : Program} {w : World} {g : Nat} {t : TypeId} {cs : Array Value} (hB : Blk w g t cs) (o : Nat) {ty : TypeId} {vs : List Value} {d : TypeDesc} (hv : ((cs.toList.drop o).take vs.length) = vs) (hu : P.underlying ty = some d) (hd : d.isRow = true)
    (hi : (P.info? ty).map (·.size) = some vs.length) : (Instr.loadAt ty (.pointer (some ⟨g, o, none⟩))).run P w = .ok (.agg vs.toArray) w := by
  refine run_loadAt_mid w g o ty vs d (fun j v h => ?_) hu hd hi
  refine hB.cell ?_
  have h1 : ((cs.toList.drop o).take vs.length)[j]? = some v := by rw [hv]; exact h
  have hj : j < vs.length := by
    rcases Nat.lt_or_ge j vs.length with h2 | h2
    · exact h2
    · rw [List.getElem?_eq_none h2] at h; cases h
  rw [List.getElem?_take_of_lt hj, List.getElem?_drop] at h1
  simpa using h1
end Go.Proofs.Ytkndgpjamijbbaa
namespace Go.Proofs.Ytkndgpjamijbbaa
set_option maxRecDepth 100000
open Go Go.RowKit
theorem bodyC_len (t : List UInt8) (x : Int) (R : List UInt8) : (bodyC t x R).length ≤ t.length + 36 := by
  unfold bodyC
  split
  · rename_i h
    have := (rightC_true h).2.2
    have h4 : (bytesOf (keyW x)).length = 4 := rfl
    simp only [List.length_append, h4]
    omega
  · simp
theorem rverify_len (B D P Q : Option Addr) (m e' nd cd np cp nq cq : Nat) (x : Int) (X M : List UInt8) (Ps Qs : List (List UInt8)) (w : World) (hX : RB w D nd cd X) (hM : RB w B m e' M) (hmn : M.length ≤ 1000000) (hp : RBB w P np cp Ps) (hq : RBB w Q nq cq Qs) :
    Calls Try.prog 28 #[.slice D nd cd, .slice B m e', .agg #[.int .i64 x, .slice P np cp, .slice Q nq cq]] w fun e w' => e = .returned (.bool (verB X M x Ps Qs)) ∧ Ext w w' :=
  rverify_any B D P Q m e' nd cd np cp nq cq x X M Ps Qs w hX hM (by have := hM.len; omega) hp hq
theorem lenV {t : List UInt8} {x : Int} {R : List UInt8} (ht : t.length ≤ 100 := by decide) : (bodyC t x R).length ≤ 1000000 := Nat.le_trans (bodyC_len _ _ _) (by omega)
/-- what a key of an owner shows of a message -/
def sigP (S M : List UInt8) (k : Nat) : List (List UInt8) := (List.range 64).map (partS (digestW M) S (k : Int))
end Go.Proofs.Ytkndgpjamijbbaa
namespace Go.Proofs.Ytkndgpjamijbbaa
set_option maxRecDepth 100000
open Go Go.RowKit
theorem Wtr.ext_ {w w' : World} {base p n c : Nat} {A : Option Addr} {L : List UInt8} (h : Wtr w base p A n c L) (e : Ext w w') : Wtr w' base p A n c L := ⟨h.blk.ext e, h.own.ext e, h.ne, h.base⟩
theorem Wtr.ext {w w' : World} {base p n c : Nat} {A : Option Addr} {L : List UInt8} (h : Wtr w base p A n c L) (e : Ext w w') : Wtr w' base p A n c L := h.ext_ e
theorem WP.of_ext {wI w w' : World} {p n c : Nat} {A : Option Addr} {L : List UInt8} (h : Wtr w wI.heap.size p A n c L) (e : Ext w w') : WP wI w p A n L w' := ⟨A, c, h.ext_ e, e.chg _ _, Later.refl _ _⟩
theorem WP.pre {wI w w1 w2 : World} {p N : Nat} {A : Option Addr} {M : List UInt8} (e : Ext w w1) (h : WP wI w1 p A N M w2) : WP wI w p A N M w2 := by
  obtain ⟨A', c', k1, k2, k3⟩ := h
  refine ⟨A', c', k1, (e.chg p A).trans (Later.refl _ _) k2, ?_⟩
  rcases k3 with k | k | ⟨q, k, hq⟩
  · exact .inl k
  · exact .inr (.inl k)
  · exact .inr (.inr ⟨q, k, Nat.le_trans e.size hq⟩)
end Go.Proofs.Ytkndgpjamijbbaa
namespace Go.Proofs.Ytkndgpjamijbbaa
set_option maxRecDepth 100000
open Go Go.RowKit
/-- blocks of b and beyond, below u; the elements' ones rise -/
def OBX (w : World) (b u : Nat) (A : Option Addr) (n c : Nat) (Ls : List (List UInt8)) : Prop :=
  ∃ (vs : List Value) (f d : Nat → Nat), w.ownsRow b 22 1 (.slice A n c) n vs ∧ Ls.length = n ∧ (∀ j, j < n → vs[j]? = some (.slice (some ⟨f j, 0, none⟩) 32 (d j)) ∧ OB w b (some ⟨f j, 0, none⟩) 32 (d j) (lb Ls j) ∧ f j < u) ∧ (∀ i j, i < j → j < n → f i < f j) ∧ ∀ k, blk A = some k → k < u
section
variable {w w' : World} {b u n c : Nat} {A : Option Addr} {Ls : List (List UInt8)}
theorem OBX.none_ (w : World) (b u : Nat) : OBX w b u none 0 0 [] := ⟨[], fun _ => 0, fun _ => 0, World.ownsRow_nil w _ _ _, rfl, fun j hj => absurd hj (Nat.not_lt_zero _), fun i j _ hj => absurd hj (Nat.not_lt_zero _), fun k hk => by cases hk⟩
theorem OBX.len (h : OBX w b u A n c Ls) : Ls.length = n := by
  obtain ⟨vs, f, d, h1, h2, _⟩ := h
  exact h2
theorem OBX.lt (h : OBX w b u A n c Ls) {k : Nat} (hk : blk A = some k) : b ≤ k ∧ k < w.heap.size := by
  obtain ⟨vs, f, d, h1, _⟩ := h
  exact World.ownsRow.lt h1 k (by rw [ownBlock_slice]; exact hk)
theorem OBX.kept (h : OBX w b u A n c Ls) {row : Option Nat} (e : w.grownBy w' row) (h1' : ∀ k, row = some k → blk A ≠ some k) (h2' : ∀ (k g m d : Nat) (Y : List UInt8), row = some k → OB w b (some ⟨g, 0, none⟩) m d Y → g < u → g ≠ k) : OBX w' b u A n c Ls := by
  obtain ⟨vs, f, d, h1, h2, h3, h4, h5⟩ := h
  refine ⟨vs, f, d, World.ownsRow.kept h1 e ?_, h2, fun j hj => ⟨(h3 j hj).1, (h3 j hj).2.1.grown e ?_, (h3 j hj).2.2⟩, h4, h5⟩
  · cases row with
    | none => cases hb : Value.ownBlock (.slice A n c) <;> simp
    | some k => exact .inr (by rw [ownBlock_slice]; exact h1' k rfl)
  · cases row with
    | none => exact .inr (by intro e; cases e)
    | some k => exact .inr (fun e => by
        have e2 : some (f j) = some k := e
        injection e2 with e2
        exact h2' k (f j) _ _ _ rfl (h3 j hj).2.1 (h3 j hj).2.2 e2)
theorem OBX.ext (h : OBX w b u A n c Ls) (e : Ext w w') : OBX w' b u A n c Ls := h.kept (e.grownBy none) (fun k hk => by cases hk) (fun k _ _ _ _ hk => by cases hk)
theorem OBX.far (h : OBX w b u A n c Ls) {row : Option Nat} (e : w.grownBy w' row) (hr : ∀ k, row = some k → Other w k) : OBX w' b u A n c Ls := by
  refine h.kept e (fun k hk e => ?_) (fun k g _ _ _ hk ho _ e => ho.other (hr k hk) (by rw [e]))
  obtain ⟨cs, t, fr, g1, g2, g3⟩ := hr k hk
  obtain ⟨vs, f, d, h1, _⟩ := h
  exact row_ne h1 g1 g2 (by rw [ownBlock_slice]; exact e)
theorem OBX.plain (h : OBX w b u A n c Ls) (hn : 0 < n) : ∃ g, A = some ⟨g, 0, none⟩ := by
  obtain ⟨vs, f, d, h1, _⟩ := h
  rcases h1.2 with ⟨_, h0⟩ | ⟨g, cap, cur, e, _⟩
  · omega
  · injection e with e1
    exact ⟨g, e1⟩
theorem OBX.obc (h : OBX w b u A n c Ls) : OBC w b A n c Ls := by
  obtain ⟨vs, f, d, h1, h2, h3, h4, h5⟩ := h
  refine ⟨vs, h1, h2, fun j hj => ?_⟩
  obtain ⟨g1, g2, g3⟩ := h3 j hj
  refine ⟨_, _, _, g1, g2.rb, fun _ e => ?_⟩
  obtain ⟨cs, hcs⟩ := row_type g2 (k := f j) (by rw [ownBlock_slice]; rfl)
  exact row_ne h1 hcs (by decide) (by rw [ownBlock_slice]; exact e.symm)
/-- an element, opened to be turned -/
theorem OBX.at_ {g : Nat} (h : OBX w b u (some ⟨g, 0, none⟩) n c Ls) {i : Nat} (hi : i < n) :
    ∃ g' d', w.cell? ⟨g, i, none⟩ = some (.slice (some ⟨g', 0, none⟩) 32 d') ∧ OB w b (some ⟨g', 0, none⟩) 32 d' (lb Ls i) ∧ g' < u ∧ g' ≠ g ∧
      ∀ (q : Nat) (x : UInt8), OBX (w.setCell ⟨g', q, none⟩ (.int .u8 (u8i x))) b u (some ⟨g, 0, none⟩) n c (Ls.set i ((lb Ls i).set q x)) := by
  obtain ⟨vs, f, d, h1, h2, h3, h4, h5⟩ := h
  obtain ⟨g1, g2, g3⟩ := h3 i hi
  have hne : f i ≠ g := by
    intro e
    obtain ⟨cs, hcs⟩ := row_type g2 (k := f i) (by rw [ownBlock_slice]; rfl)
    exact row_ne h1 hcs (by decide) (by rw [ownBlock_slice, e]; rfl)
  have hc := World.ownsRow.cells h1 (g := g) (by rw [ownBlock_slice]; rfl) i _ g1
  rw [add_plain] at hc
  refine ⟨f i, d i, hc, g2, g3, hne, fun q x => ?_⟩
  have gs := grown_set w ⟨f i, q, none⟩ (.int .u8 (u8i x))
  refine ⟨vs, f, d, World.ownsRow.kept h1 gs (.inr (by rw [ownBlock_slice]; intro e; injection e with e; exact hne e.symm)), by rw [List.length_set]; exact h2, fun j hj => ?_, h4, h5⟩
  obtain ⟨k1, k2, k3⟩ := h3 j hj
  refine ⟨k1, ?_, k3⟩
  rw [lb_set (by omega)]
  by_cases hji : j = i
  · subst hji
    rw [if_pos rfl]
    exact (g2.set q x).1
  · rw [if_neg hji]
    refine k2.grown gs (.inr fun e => ?_)
    have e2 : f j = f i := by
      have e3 : some (f j) = some (f i) := e
      injection e3
    rcases Nat.lt_or_ge j i with h6 | h6
    · have := h4 j i h6 hi; omega
    · have := h4 i j (by omega) hj; omega
end
end Go.Proofs.Ytkndgpjamijbbaa
namespace Go.Proofs.Ytkndgpjamijbbaa
set_option maxRecDepth 100000
open Go Go.RowKit
def MP.em (b : Nat) : MP Ext := ⟨fun u w => ∃ g, u = .slice (some ⟨g, 0, none⟩) 0 0 ∧ RB w (some ⟨g, 0, none⟩) 0 0 [], fun _ _ _ e ⟨g, h1, h2⟩ => ⟨g, h1, h2.ext e⟩⟩
def TurnPost (w : World) (x how : Int) (i : Nat) (t : UInt8) (Ps Qs : List (List UInt8)) (e : Ending) (w' : World) : Prop :=
  ∃ x' P' n c Q' m d Ps' Qs', e = .returned (.agg #[.int .i64 x', .slice P' n c, .slice Q' m d]) ∧ RBB w' P' n c Ps' ∧ RBB w' Q' m d Qs' ∧ (how = 1 → x' = x ∧ Qs' = Qs ∧ Ps' = Ps.set i ((lb Ps i).set 0 (ub (lb Ps i) 0 ^^^ t))) ∧ Ext w w'
theorem TurnPost.mk {w : World} {x how : Int} {i : Nat} {t : UInt8} {Ps Qs : List (List UInt8)} {e : Ending} {w' : World} (h : ∃ x' P' n c Q' m d Ps' Qs', e = .returned (.agg #[.int .i64 x', .slice P' n c, .slice Q' m d]) ∧ RBB w' P' n c Ps' ∧ RBB w' Q' m d Qs' ∧ (how = 1 → x' = x ∧ Qs' = Qs ∧ Ps' = Ps.set i ((lb Ps i).set 0 (ub (lb Ps i) 0 ^^^ t))) ∧ Ext w w') : TurnPost w x how i t Ps Qs e w' := h
end Go.Proofs.Ytkndgpjamijbbaa
namespace Go.Proofs.Ytkndgpjamijbbaa
set_option maxRecDepth 100000
open Go Go.RowKit
/-- a manifest's value, as it is handed on -/
def manV (m : Man) (F : Option Addr) (nf cf : Nat) (N : Option Addr) (nn cn : Nat) : Value := .agg #[.string (str m.name), .int .u32 (u32i m.ver), .slice F nf cf, .slice N nn cn]
end Go.Proofs.Ytkndgpjamijbbaa
namespace Go.Proofs.Ytkndgpjamijbbaa
set_option maxRecDepth 100000
open Go Go.RowKit
theorem Blk.chg {w w' : World} {g : Nat} {t : TypeId} {cs : Array Value} {p : Nat} {A : Option Addr} (h : Blk w g t cs) (k : Chg w w' p A) (h1 : g ≠ p) (h2 : blk A ≠ some g) : Blk w' g t cs := (k.block g h.lt h1 h2).trans h
end Go.Proofs.Ytkndgpjamijbbaa
namespace Go.Proofs.Ytkndgpjamijbbaa
set_option maxRecDepth 100000
open Go Go.RowKit
def StaysQ (q : Nat) (m : MP Ext) : Prop := ∀ u w w', w.grownBy w' (some q) → m.p u w → m.p u w'
def StaysQL (q : Nat) : List (MP Ext) → Prop
  | [] => True
  | m :: l => StaysQ q m ∧ StaysQL q l
theorem StaysQL.at_ {q : Nat} {F : List (MP Ext)} : ∀ {j : Nat} {m : MP Ext}, StaysQL q F → F[j]? = some m → StaysQ q m := by
  induction F with
  | nil => intro j m _ h; simp at h
  | cons x l ih =>
    intro j m h hj
    cases j with
    | zero =>
      simp only [List.getElem?_cons_zero, Option.some.injEq] at hj
      subst hj
      exact h.1
    | succ j => exact ih (j := j) h.2 (by simpa only [List.getElem?_cons_succ] using hj)
section
variable {ops : Array Oper} {H : List Tmp} {F : List (MP Ext)} {a0 : Act} {w0 wI : World} {q : Nat} {cs : List Nat} {S : Nat → World → Prop} {i : Nat} {o : Oper}
end
end Go.Proofs.Ytkndgpjamijbbaa
namespace Go.Proofs.Ytkndgpjamijbbaa
set_option maxRecDepth 100000
open Go Go.RowKit
def MP.man (q : Nat) (m : Man) : MP Ext := ⟨fun u w => ∃ F nf cf N nn cn, u = manV m F nf cf N nn cn ∧ RB w F nf cf m.fw ∧ RB w N nn cn m.notes ∧ (0 < nf → blk F ≠ some q) ∧ (0 < nn → blk N ≠ some q),
  fun _ _ _ e ⟨F, nf, cf, N, nn, cn, h1, h2, h3, h4, h5⟩ => ⟨F, nf, cf, N, nn, cn, h1, h2.ext e, h3.ext e, h4, h5⟩⟩
theorem RB.apart {w : World} {A : Option Addr} {n c : Nat} {L : List UInt8} (h : RB w A n c L) {g : Nat} {t : TypeId} {cs : Array Value} (hb : Blk w g t cs) (hno : ∀ (i : Nat) (x : Int), cs[i]? ≠ some (.int .u8 x)) : 0 < n → blk A ≠ some g := by
  intro hn e
  obtain ⟨ad, rfl, hc⟩ := h.cells hn
  have h1 := hc 0 hn
  have h2 : ad.block = g := by simpa [blk] using e
  unfold World.cell? at h1
  have h3 : (ad.add 0).block = ad.block := rfl
  rw [h3, h2, show w.heap[g]? = _ from hb] at h1
  by_cases hs : (ad.add 0).spot.isSome = true
  · simp [hs] at h1
  · simp only [hs] at h1
    exact hno _ _ h1
end Go.Proofs.Ytkndgpjamijbbaa
namespace Go.Proofs.Ytkndgpjamijbbaa
set_option maxRecDepth 100000
open Go Go.RowKit
/-- a slice of byte slices that reads as Ls; it and its elements lie in blocks of which φ holds -/
structure RBBP (w : World) (φ : Nat → Prop) (A : Option Addr) (n c : Nat) (Ls : List (List UInt8)) : Prop where
  len : Ls.length = n
  room : n ≤ c
  cap : c ≤ maxLen
  row : 0 < n → ∀ k, blk A = some k → φ k
  cells : 0 < n → ∃ ad, A = some ad ∧ ∀ j, j < n → ∃ B m d, w.cell? (ad.add j) = some (.slice B m d) ∧ RB w B m d (lb Ls j) ∧ (0 < m → ∀ k, blk B = some k → φ k)
theorem RBBP.rbb {w : World} {φ : Nat → Prop} {A : Option Addr} {n c : Nat} {Ls : List (List UInt8)} (h : RBBP w φ A n c Ls) : RBB w A n c Ls :=
  ⟨h.len, h.room, h.cap, fun hn => by
    obtain ⟨ad, ha, hc⟩ := h.cells hn
    refine ⟨ad, ha, fun j hj => ?_⟩
    obtain ⟨B, m, d, h1, h2, _⟩ := hc j hj
    exact ⟨B, m, d, h1, h2⟩⟩
theorem RBBP.ext {w w' : World} {φ : Nat → Prop} {A : Option Addr} {n c : Nat} {Ls : List (List UInt8)} (h : RBBP w φ A n c Ls) (e : Ext w w') : RBBP w' φ A n c Ls :=
  ⟨h.len, h.room, h.cap, h.row, fun hn => by
    obtain ⟨ad, ha, hc⟩ := h.cells hn
    refine ⟨ad, ha, fun j hj => ?_⟩
    obtain ⟨B, m, d, h1, h2, h3⟩ := hc j hj
    exact ⟨B, m, d, e.cell h1, h2.ext e, h3⟩⟩
/-- blocks that φ holds of stay -/
theorem RB.keep {w w' : World} {φ : Nat → Prop} {A : Option Addr} {n c : Nat} {L : List UInt8} (h : RB w A n c L) (hf : 0 < n → ∀ k, blk A = some k → φ k) (hk : ∀ k, k < w.heap.size → φ k → w'.heap[k]? = w.heap[k]?) : RB w' A n c L :=
  ⟨h.len, h.room, h.cap, fun hn => by
    obtain ⟨ad, ha, hc⟩ := h.cells hn
    refine ⟨ad, ha, fun j hj => ?_⟩
    have h1 := hc j hj
    have h3 := World.block_lt_of_cell? w _ h1
    refine (World.cell?_of_block ?_).trans h1
    rw [block_of_add] at h3 ⊢
    exact hk _ h3 (hf hn _ (by rw [ha]; rfl))⟩
theorem RBBP.keep {w w' : World} {φ : Nat → Prop} {A : Option Addr} {n c : Nat} {Ls : List (List UInt8)} (h : RBBP w φ A n c Ls) (hk : ∀ k, k < w.heap.size → φ k → w'.heap[k]? = w.heap[k]?) : RBBP w' φ A n c Ls :=
  ⟨h.len, h.room, h.cap, h.row, fun hn => by
    obtain ⟨ad, ha, hc⟩ := h.cells hn
    refine ⟨ad, ha, fun j hj => ?_⟩
    obtain ⟨B, m, d, h1, h2, h3⟩ := hc j hj
    refine ⟨B, m, d, ?_, h2.keep h3 hk, h3⟩
    have h4 := World.block_lt_of_cell? w _ h1
    refine (World.cell?_of_block ?_).trans h1
    rw [block_of_add] at h4 ⊢
    exact hk _ h4 (h.row hn _ (by rw [ha]; rfl))⟩
/-- a row of byte slices of the call's own, from block base on; its elements lie from block b on -/
def OBF (w : World) (base b : Nat) (A : Option Addr) (n c : Nat) (Ls : List (List UInt8)) : Prop :=
  ∃ vs : List Value, w.ownsRow base 22 1 (.slice A n c) n vs ∧ Ls.length = n ∧ ∀ j, j < n → ∃ B m d, vs[j]? = some (.slice B m d) ∧ RB w B m d (lb Ls j) ∧ (0 < m → blk B ≠ blk A ∧ ∀ k, blk B = some k → b ≤ k)
section
variable {w w' : World} {base b n c : Nat} {A : Option Addr} {Ls : List (List UInt8)}
theorem OBF.none_ (w : World) (base b : Nat) : OBF w base b none 0 0 [] := ⟨[], World.ownsRow_nil w _ _ _, rfl, fun j hj => absurd hj (Nat.not_lt_zero _)⟩
theorem OBF.obc (h : OBF w base b A n c Ls) : OBC w base A n c Ls := by
  obtain ⟨vs, h1, h2, h3⟩ := h
  refine ⟨vs, h1, h2, fun j hj => ?_⟩
  obtain ⟨B, m, d, h4, h5, h6⟩ := h3 j hj
  exact ⟨B, m, d, h4, h5, fun hm => (h6 hm).1⟩
theorem OBF.lt (h : OBF w base b A n c Ls) {k : Nat} (hk : blk A = some k) : base ≤ k ∧ k < w.heap.size := h.obc.lt hk
theorem OBF.ext (h : OBF w base b A n c Ls) (e : Ext w w') : OBF w' base b A n c Ls := by
  obtain ⟨vs, h1, h2, h3⟩ := h
  refine ⟨vs, World.ownsRow.kept h1 (e.grownBy none) ?_, h2, fun j hj => ?_⟩
  · cases hb : Value.ownBlock (.slice A n c) <;> simp
  · obtain ⟨B, m, d, h4, h5, h6⟩ := h3 j hj
    exact ⟨B, m, d, h4, h5.ext e, h6⟩
theorem OBF.far (h : OBF w base b A n c Ls) {g : Nat} {t : TypeId} {cs : Array Value} (hb : Blk w g t cs) (ht : t ≠ 22) (hno : ∀ (i : Nat) (x : Int), cs[i]? ≠ some (.int .u8 x)) (e : w.grownBy w' (some g)) : OBF w' base b A n c Ls := by
  obtain ⟨vs, h1, h2, h3⟩ := h
  refine ⟨vs, World.ownsRow.kept h1 e (.inr (row_ne h1 hb ht)), h2, fun j hj => ?_⟩
  obtain ⟨B, m, d, h4, h5, h6⟩ := h3 j hj
  exact ⟨B, m, d, h4, h5.grown e (h5.apart5 hb hno), h6⟩
end
end Go.Proofs.Ytkndgpjamijbbaa

/-
  Rows of unlike types lie in unlike blocks. Plain theorems. Appending many slices to a row of the call's own. wire's Writer and Reader, walked. wire's Writer, walked: New, Byte, Num, Bytes, Raw, Done.
-/
import Derived.Test.YtkndgpjamijbbaaGreatLawNumbers22Q14
import Derived.Test.YtkndgpjamijbbaaGreatLawNumbers22Q12
import Derived.Test.YtkndgpjamijbbaaGreatLawNumbers22Q4
import Derived.Test.YtkndgpjamijbbaaGreatLawNumbers22Q10
namespace Go.Proofs.YtkndgpjamijbbaaGreat
set_option maxRecDepth 100000
open Go Go.RowKit
/-- the block of this number holds cells of another type than byte slices and bytes -/
def Other (w : World) (k : Nat) : Prop := ∃ cs t fr, w.heap[k]? = some (.cells cs t fr) ∧ t ≠ 26 ∧ t ≠ 5
theorem Blk.other {w : World} {g : Nat} {t : TypeId} {cs : Array Value} (h : Blk w g t cs) (h1 : t ≠ 26) (h2 : t ≠ 5) : Other w g := ⟨cs, t, (0, 0), h, h1, h2⟩
theorem row_type {w : World} {base : Nat} {e : TypeId} {s : Nat} {v : Value} {n : Nat} {xs : List Value} (h : w.ownsRow base e s v n xs) {k : Nat} (hk : v.ownBlock = some k) : ∃ cs, w.heap[k]? = some (.cells cs e (0, 0)) := by
  rcases h.2 with ⟨e, _⟩ | ⟨g, cap, cur, e, _, h1, _⟩
  · rw [e] at hk; cases hk
  · rw [e] at hk
    have h2 : some g = some k := hk
    injection h2 with h2
    subst h2
    exact ⟨cur, h1⟩
theorem row_other {w : World} {base : Nat} {e : TypeId} {s : Nat} {v : Value} {n : Nat} {xs : List Value} (h : w.ownsRow base e s v n xs) (h1 : e ≠ 26) (h2 : e ≠ 5) {k : Nat} (hk : v.ownBlock = some k) : Other w k := by
  obtain ⟨cs, hc⟩ := row_type h hk
  exact ⟨cs, e, (0, 0), hc, h1, h2⟩
theorem row_ne {w : World} {base : Nat} {e : TypeId} {s : Nat} {v : Value} {n : Nat} {xs : List Value} (h : w.ownsRow base e s v n xs) {k : Nat} {cs : Array Value} {t : TypeId} {fr : Nat × Nat} (hk : w.heap[k]? = some (.cells cs t fr)) (ht : t ≠ e) : v.ownBlock ≠ some k := by
  intro he
  obtain ⟨cs', hc⟩ := row_type h he
  rw [hc] at hk
  injection hk with hk
  injection hk with _ h2
  exact ht h2.symm
theorem OB.other {w : World} {base g n c : Nat} {L : List UInt8} (h : OB w base (some ⟨g, 0, none⟩) n c L) {k : Nat} (hk : Other w k) : some g ≠ some k := by
  obtain ⟨cs, t, fr, h1, h2, h3⟩ := hk
  have := row_ne h h1 h3
  rw [ownBlock_slice] at this
  exact this
theorem OBD.far {w w' : World} {base n c : Nat} {A : Option Addr} {Ls : List (List UInt8)} (h : OBD w base A n c Ls) {row : Option Nat} (e : w.grownBy w' row) (ht : ∀ k, row = some k → Other w k) : OBD w' base A n c Ls := by
  obtain ⟨vs, h1, h2, h3⟩ := h
  refine ⟨vs, World.ownsRow.kept h1 e ?_, h2, fun j hj => ?_⟩
  · cases row with
    | none => cases hb : Value.ownBlock (.slice A n c) <;> simp
    | some k =>
      obtain ⟨cs, t, fr, g1, g2, g3⟩ := ht k rfl
      exact .inr (row_ne h1 g1 g2)
  · obtain ⟨g, d, h4, h5, h6⟩ := h3 j hj
    refine ⟨g, d, h4, h5.grown e (.inr fun e' => ?_), h6⟩
    cases row with
    | none => cases e'
    | some k => exact h5.other (ht k rfl) e'
theorem RB.apart5 {w : World} {A : Option Addr} {n c : Nat} {L : List UInt8} (h : RB w A n c L) {g : Nat} {t : TypeId} {cs : Array Value} (hb : Blk w g t cs) (hno : ∀ (i : Nat) (x : Int), cs[i]? ≠ some (.int .u8 x)) : 0 < n → blk A ≠ some g := by
  intro hn e
  obtain ⟨ad, rfl, hc⟩ := h.cells hn
  have h1 := hc 0 hn
  have h2 : ad.block = g := by simpa [blk] using e
  unfold World.cell? at h1
  have h3 : (ad.add 0).block = ad.block := rfl
  rw [h3, h2, show w.heap[g]? = _ from hb] at h1
  by_cases hs : (ad.add 0).spot.isSome = true
  · simp [hs] at h1
  · simp only [hs] at h1
    exact hno _ _ h1
theorem sig_no (x : Int) (P Q : Option Addr) (np cp nq cq i : Nat) (y : Int) : (#[.int .i64 x, .slice P np cp, .slice Q nq cq] : Array Value)[i]? ≠ some (.int .u8 y) := by
  rcases i with _ | _ | _ | i <;> simp
theorem OBC.far {w w' : World} {base n c : Nat} {A : Option Addr} {Ls : List (List UInt8)} (h : OBC w base A n c Ls) {g : Nat} {t : TypeId} {cs : Array Value} (hb : Blk w g t cs) (ht : t ≠ 26) (hno : ∀ (i : Nat) (x : Int), cs[i]? ≠ some (.int .u8 x)) (e : w.grownBy w' (some g)) : OBC w' base A n c Ls := by
  obtain ⟨vs, h1, h2, h3⟩ := h
  refine ⟨vs, World.ownsRow.kept h1 e (.inr (row_ne h1 hb ht)), h2, fun j hj => ?_⟩
  obtain ⟨B, m, d, h4, h5, h6⟩ := h3 j hj
  exact ⟨B, m, d, h4, h5.grown e (h5.apart5 hb hno), h6⟩
/-- the levels of an owner's tree, each a row of the call's own -/
def LevO (w : World) (b : Nat) (A : Option Addr) (n c : Nat) (S : List UInt8) : Prop :=
  ∃ vs : List Value, w.ownsRow b 33 1 (.slice A n c) n vs ∧ ∀ j, j < n → ∃ g d, vs[j]? = some (.slice (some ⟨g, 0, none⟩) (16 / 2 ^ j) d) ∧ OBD w b (some ⟨g, 0, none⟩) (16 / 2 ^ j) d (lev S j)
theorem LevO.none_ (w : World) (b : Nat) (S : List UInt8) : LevO w b none 0 0 S := ⟨[], World.ownsRow_nil w _ _ _, fun j hj => absurd hj (Nat.not_lt_zero _)⟩
theorem LevO.lt {w : World} {b n c : Nat} {A : Option Addr} {S : List UInt8} (h : LevO w b A n c S) {k : Nat} (hk : blk A = some k) : b ≤ k ∧ k < w.heap.size := by
  obtain ⟨vs, h1, _⟩ := h
  exact World.ownsRow.lt h1 k (by rw [ownBlock_slice]; exact hk)
theorem LevO.other {w : World} {b n c : Nat} {A : Option Addr} {S : List UInt8} (h : LevO w b A n c S) {k : Nat} (hk : blk A = some k) : Other w k := by
  obtain ⟨vs, h1, _⟩ := h
  exact row_other h1 (by decide) (by decide) (by rw [ownBlock_slice]; exact hk)
theorem LevO.ext {w w' : World} {b n c : Nat} {A : Option Addr} {S : List UInt8} (h : LevO w b A n c S) (e : Ext w w') : LevO w' b A n c S := by
  obtain ⟨vs, h1, h3⟩ := h
  refine ⟨vs, World.ownsRow.kept h1 (e.grownBy none) ?_, fun j hj => ?_⟩
  · cases hb : Value.ownBlock (.slice A n c) <;> simp
  · obtain ⟨g, d, h4, h5⟩ := h3 j hj
    exact ⟨g, d, h4, h5.ext e⟩
theorem LevO.far {w w' : World} {b n c : Nat} {A : Option Addr} {S : List UInt8} (h : LevO w b A n c S) {g : Nat} {t : TypeId} {cs : Array Value} (hb : Blk w g t cs) (h1 : t ≠ 33) (h2 : t ≠ 26) (h3 : t ≠ 5) (e : w.grownBy w' (some g)) : LevO w' b A n c S := by
  obtain ⟨vs, r1, r3⟩ := h
  refine ⟨vs, World.ownsRow.kept r1 e (.inr (row_ne r1 hb h1)), fun j hj => ?_⟩
  obtain ⟨g', d, h4, h5⟩ := r3 j hj
  exact ⟨g', d, h4, h5.far e (fun k hk => by cases hk; exact hb.other h2 h3)⟩
theorem LevO.cell {w : World} {b n c g : Nat} {S : List UInt8} (h : LevO w b (some ⟨g, 0, none⟩) n c S) {j : Nat} (hj : j < n) :
    ∃ g' d', w.cell? ((⟨g, 0, none⟩ : Addr).add j) = some (.slice (some ⟨g', 0, none⟩) (16 / 2 ^ j) d') ∧ OBD w b (some ⟨g', 0, none⟩) (16 / 2 ^ j) d' (lev S j) := by
  obtain ⟨vs, h1, h3⟩ := h
  obtain ⟨g', d', h4, h5⟩ := h3 j hj
  exact ⟨g', d', World.ownsRow.cells h1 (g := g) (by rw [ownBlock_slice]; rfl) j _ h4, h5⟩
theorem LevO.plain {w : World} {b n c : Nat} {A : Option Addr} {S : List UInt8} (h : LevO w b A n c S) (hn : 0 < n) : ∃ g, A = some ⟨g, 0, none⟩ := by
  obtain ⟨vs, h1, _⟩ := h
  rcases h1.2 with ⟨_, h0⟩ | ⟨g, cap, cur, e, _⟩
  · omega
  · injection e with e1
    exact ⟨g, e1⟩
theorem LevO.room {w : World} {b n c : Nat} {A : Option Addr} {S : List UInt8} (h : LevO w b A n c S) : n ≤ c := by
  obtain ⟨vs, h1, _⟩ := h
  rcases h1.2 with ⟨e, h0⟩ | ⟨g, cap, cur, e, _, _, h2, _⟩
  · omega
  · injection e with e1 e2 e3
    omega
theorem LevO.base {w : World} {b b' n c : Nat} {A : Option Addr} {S : List UInt8} (h : LevO w b A n c S) (hb : b' ≤ b) : LevO w b' A n c S := by
  obtain ⟨vs, h1, h3⟩ := h
  refine ⟨vs, ownsRow_base h1 hb, fun j hj => ?_⟩
  obtain ⟨g, d, h4, h5⟩ := h3 j hj
  exact ⟨g, d, h4, h5.base hb⟩
theorem info_sss : (Tryz.prog.info? 33).map (fun i => (i.zero, i.size, i.bytes)) = some (some (.slice none 0 0), 1, 24) := by kernel_rfl
theorem appl_law {ops : Array Oper} {rest : List Oper} {o : Oper} {a : Act} {Q : Exit → Act → World → Prop} {w : World} (hgd : o.guard = none) {s x : Operand} (ho : o.op = .call { callee := .builtin .append, args := #[s, x], argTypes := #[69, 69] })
    {A : Option Addr} {n c : Nat} (hs : a.eval s = .slice A n c) {ad : Addr} (hx : a.eval x = .slice (some ad) 1 1) {b : Nat} {S : List UInt8} {g d : Nat} (hcell : w.cell? (ad.add 0) = some (.slice (some ⟨g, 0, none⟩) (16 / 2 ^ n) d))
    (hown : LevO w b A n c S) (hB : OBD w b (some ⟨g, 0, none⟩) (16 / 2 ^ n) d (lev S n)) (hbase : b ≤ w.heap.size) (hnk : n + 1 ≤ 1000000)
    (h : ∀ A' c' w', LevO w' b A' (n + 1) c' S → OBD w' b (some ⟨g, 0, none⟩) (16 / 2 ^ n) d (lev S n) → w.grownBy w' (blk A) → wpList Tryz.prog ops Q rest (a.put o.dst (.slice A' (n + 1) c')) w') : wpList Tryz.prog ops Q (o :: rest) a w := by
  obtain ⟨i0, hi0, hz0, hz1, hz2⟩ := info_parts info_sss
  have hoth := fun k (hk : blk A = some k) => hown.other hk
  obtain ⟨vs, h1, h3⟩ := hown
  obtain ⟨v', w', hrun, r1, r2, _, r4⟩ := run_append_own_at (P := Tryz.prog) w b 69 o.type 33 i0 (.slice none 0 0) 1 24 Tryz.underlying69 hi0 hz0 hz1 hz2 rfl (by decide) (.slice A n c) n vs h1 ad 1 1 [.slice (some ⟨g, 0, none⟩) (16 / 2 ^ n) d] rfl
    (by
      intro j u hu
      rcases j with _ | j
      · injection hu with hu
        subst hu
        exact hcell
      · cases hu) (by simp [Value.oneCell']) (small_maxLen hnk) (by omega) hbase
  obtain ⟨A', c', rfl⟩ : ∃ A' c', v' = .slice A' (n + 1) c' := by
    rcases r1.2 with ⟨_, h0⟩ | ⟨g, cap, _, rfl, _⟩
    · omega
    · exact ⟨_, cap, rfl⟩
  rw [ownBlock_slice] at r2
  have hvl : vs.length = n := by have := h1.1; omega
  refine run_law hgd (v := .slice A' (n + 1) c') (w' := w') ?_ (h A' c' w' ⟨vs ++ [.slice (some ⟨g, 0, none⟩) (16 / 2 ^ n) d], r1, fun j hj => ?_⟩ (hB.far r2 hoth) r2)
  · unfold execOp
    simp only [ho, resolve, invoke, builtin, Sem.run_bind, Sem.run_pure, Result.andThen_ok, List.map_toArray, List.map_cons, List.map_nil, hs, hx, hrun]
  · by_cases hjn : j < n
    · obtain ⟨g', d', h4, h5⟩ := h3 j hjn
      exact ⟨g', d', by rw [List.getElem?_append_left (by omega)]; exact h4, h5.far r2 hoth⟩
    · obtain rfl : j = n := by omega
      exact ⟨g, d, by rw [List.getElem?_append_right (by omega), hvl]; simp, hB.far r2 hoth⟩
end Go.Proofs.YtkndgpjamijbbaaGreat
namespace Go.Proofs.YtkndgpjamijbbaaGreat
set_option maxRecDepth 100000
open Go Go.RowKit
theorem RBB.vals {w : World} {A : Option Addr} {n c : Nat} {Ls : List (List UInt8)} (h : RBB w A n c Ls) :
    ∃ us : List Value, us.length = n ∧ (∀ ad, A = some ad → ∀ j u, us[j]? = some u → w.cell? (ad.add j) = some u) ∧ (∀ u ∈ us, u.oneCell' = true) ∧ ∀ j, j < n → ∃ B m d, us[j]? = some (.slice B m d) ∧ RB w B m d (lb Ls j) := by
  by_cases hn : n = 0
  · subst hn
    exact ⟨[], rfl, fun _ _ j u hu => by simp at hu, fun u hu => by simp at hu, fun j hj => absurd hj (Nat.not_lt_zero _)⟩
  · obtain ⟨ad, rfl, hc⟩ := h.cells (by omega)
    have pick : ∃ f : Nat → Value, ∀ j, j < n → w.cell? (ad.add j) = some (f j) ∧ ∃ B m d, f j = .slice B m d ∧ RB w B m d (lb Ls j) :=
      ⟨fun j => (w.cell? (ad.add j)).getD undef, fun j hj => by
        obtain ⟨B, m, d, h1, h2⟩ := hc j hj
        have e : (w.cell? (ad.add j)).getD undef = .slice B m d := by rw [h1]; rfl
        exact ⟨by show w.cell? (ad.add j) = some ((w.cell? (ad.add j)).getD undef); rw [e]; exact h1, B, m, d, e, h2⟩⟩
    obtain ⟨f, hf⟩ := pick
    have hget : ∀ j, j < n → ((List.range n).map f)[j]? = some (f j) := fun j hj => by simp [hj]
    refine ⟨(List.range n).map f, by simp, fun ad' e j u hu => ?_, fun u hu => ?_, fun j hj => ?_⟩
    · cases e
      have hj : j < n := by
        rcases Nat.lt_or_ge j n with h1 | h1
        · exact h1
        · rw [List.getElem?_eq_none (by simpa using h1)] at hu; cases hu
      rw [hget j hj] at hu
      injection hu with hu
      subst hu
      exact (hf j hj).1
    · simp only [List.mem_map, List.mem_range] at hu
      obtain ⟨j, hj, rfl⟩ := hu
      obtain ⟨_, B, m, d, h1, _⟩ := hf j hj
      rw [h1]
      simp [Value.oneCell']
    · obtain ⟨_, B, m, d, h1, h2⟩ := hf j hj
      exact ⟨B, m, d, by rw [hget j hj, h1], h2⟩
end Go.Proofs.YtkndgpjamijbbaaGreat
namespace Go.Proofs.YtkndgpjamijbbaaGreat
set_option maxRecDepth 100000
open Go Go.RowKit

/-- but for block p and the row at A nothing that was there is turned -/
structure Chg (w w' : World) (p : Nat) (A : Option Addr) : Prop where
  os : w'.os = w.os
  tape : w'.tape = w.tape
  output : w'.output = w.output
  size : w.heap.size ≤ w'.heap.size
  block : ∀ k, k < w.heap.size → k ≠ p → blk A ≠ some k → w'.heap[k]? = w.heap[k]?
def Later (w : World) (A A' : Option Addr) : Prop := blk A' = blk A ∨ blk A' = none ∨ ∃ k, blk A' = some k ∧ w.heap.size ≤ k
theorem Chg.refl (w : World) (p : Nat) (A : Option Addr) : Chg w w p A := ⟨rfl, rfl, rfl, Nat.le_refl _, fun _ _ _ _ => rfl⟩
theorem Chg.trans {a b c : World} {p : Nat} {A B : Option Addr} (h : Chg a b p A) (hl : Later a A B) (k : Chg b c p B) : Chg a c p A :=
  ⟨k.os.trans h.os, k.tape.trans h.tape, k.output.trans h.output, Nat.le_trans h.size k.size, fun i hi h1 h2 => by
    refine (k.block i (Nat.lt_of_lt_of_le hi h.size) h1 ?_).trans (h.block i hi h1 h2)
    rcases hl with e | e | ⟨q, e, hq⟩
    · rw [e]; exact h2
    · rw [e]; simp
    · rw [e]; intro e2; cases e2; omega⟩
theorem Later.trans {a b : World} {A B C : Option Addr} (h : Later a A B) (hs : a.heap.size ≤ b.heap.size) (k : Later b B C) : Later a A C := by
  rcases k with e | e | ⟨q, e, hq⟩
  · rcases h with e' | e' | ⟨q', e', hq'⟩
    · exact .inl (e.trans e')
    · exact .inr (.inl (e.trans e'))
    · exact .inr (.inr ⟨q', e.trans e', hq'⟩)
  · exact .inr (.inl e)
  · exact .inr (.inr ⟨q, e, Nat.le_trans hs hq⟩)
theorem Later.refl (w : World) (A : Option Addr) : Later w A A := .inl rfl
theorem Ext.chg {w w' : World} (h : Ext w w') (p : Nat) (A : Option Addr) : Chg w w' p A := ⟨h.os, h.tape, h.output, h.size, fun _ hk _ _ => h.block hk⟩
/-- A Writer: block p holds the row that it has written so far. -/
structure Wtr (w : World) (base p : Nat) (A : Option Addr) (n c : Nat) (L : List UInt8) : Prop where
  blk : Blk w p 130 #[.slice A n c]
  own : OB w base A n c L
  ne : Go.Proofs.YtkndgpjamijbbaaGreat.blk A ≠ some p
  base : base ≤ p
theorem Wtr.chg_ext {w0 w w' : World} {p n c : Nat} {A : Option Addr} {L : List UInt8} (h : Wtr w w0.heap.size p A n c L) (hE : Ext w0 w) (k : Chg w w' p A) : Ext w0 w' :=
  ⟨k.os.trans hE.os, k.tape.trans hE.tape, k.output.trans hE.output, Nat.le_trans hE.size k.size, fun i hi => by
    refine (k.block i (Nat.lt_of_lt_of_le hi hE.size) ?_ ?_).trans (hE.block hi)
    · have := h.base; omega
    · intro e; have := (h.own.lt e).1; omega⟩
/-- a slice that is read, apart from the Writer's own memory -/
def Away (B : Option Addr) (n p : Nat) (A : Option Addr) : Prop := 0 < n → ∀ k, blk B = some k → k ≠ p ∧ blk A ≠ some k
theorem RB.chg {w w' : World} {B : Option Addr} {n d p : Nat} {A : Option Addr} {M : List UInt8} (h : RB w B n d M) (k : Chg w w' p A) (ha : Away B n p A) : RB w' B n d M :=
  ⟨h.len, h.room, h.cap, fun hn => by
    obtain ⟨ad, rfl, hc⟩ := h.cells hn
    refine ⟨ad, rfl, fun j hj => ?_⟩
    have h1 := ha hn ad.block rfl
    have h2 := hc j hj
    have h3 := World.block_lt_of_cell? w _ h2
    rw [block_of_add] at h3
    refine (World.cell?_of_block ?_).trans h2
    rw [block_of_add]
    exact k.block _ h3 h1.1 h1.2⟩
theorem Away.later {w : World} {B : Option Addr} {n p : Nat} {A A' : Option Addr} (h : Away B n p A) (hl : Later w A A') (hb : 0 < n → ∀ k, blk B = some k → k < w.heap.size) : Away B n p A' := by
  intro hn k hk
  refine ⟨(h hn k hk).1, ?_⟩
  rcases hl with e | e | ⟨q, e, hq⟩
  · rw [e]; exact (h hn k hk).2
  · rw [e]; simp
  · rw [e]; intro e2; cases e2; have := hb hn _ hk; omega
theorem RB.blk_lt {w : World} {B : Option Addr} {n d : Nat} {M : List UInt8} (h : RB w B n d M) (hn : 0 < n) (k : Nat) (hk : blk B = some k) : k < w.heap.size := by
  obtain ⟨ad, rfl, hc⟩ := h.cells hn
  have h3 := World.block_lt_of_cell? w _ (hc 0 hn)
  rw [block_of_add] at h3
  cases hk
  exact h3
/-- what was there before the Writer was made is apart from it -/
theorem Wtr.away {w0 w : World} {p n c m d : Nat} {A B : Option Addr} {L M : List UInt8} (h : Wtr w w0.heap.size p A n c L) (hr : RB w0 B m d M) : Away B m p A := by
  intro hm k hk
  have h1 := hr.blk_lt hm k hk
  refine ⟨?_, ?_⟩
  · have := h.base; omega
  · intro e; have := (h.own.lt e).1; omega

theorem OB.far {w : World} {base n c : Nat} {A : Option Addr} {L : List UInt8} (h : OB w base A n c L) {p : Addr} {u : Value} (hp : blk A ≠ some p.block) : OB (w.setCell p u) base A n c L :=
  h.grown (grownBy_setCell w p u) (.inr hp)
def beBytes (x : UInt32) (z : Nat) : List UInt8 := (List.range z).map fun i => (shr x (8 * (z - 1 - i))).toUInt8
theorem beBytes_length (x : UInt32) (z : Nat) : (beBytes x z).length = z := by simp [beBytes]
theorem beBytes_take (x : UInt32) (z i : Nat) (hi : i < z) : (beBytes x z).take (i + 1) = (beBytes x z).take i ++ [(shr x (8 * (z - 1 - i))).toUInt8] := by
  rw [List.take_succ_eq_append_getElem (by rw [beBytes_length]; exact hi)]
  congr 2
  simp [beBytes]

set_option maxHeartbeats 1000000 in
theorem wnumber_any (wI w : World) (p n0 c0 : Nat) (A0 : Option Addr) (X0 : List UInt8) (x : UInt32) (z : Nat) (zI : Int) (hzI : zI = (z : Int)) (hz : z ≤ 4) (hz1 : 1 ≤ z) (hEI : Ext wI w) (hW : Wtr w wI.heap.size p A0 n0 c0 X0) (hn : n0 ≤ 70368744177664) :
    Calls Tryz.prog 100 #[.pointer (some ⟨p, 0, none⟩), .int .u32 (u32i x), .int .i64 zI] w fun e w' =>
      e = .returned (.tuple #[]) ∧ ∃ A c, Wtr w' wI.heap.size p A (n0 + z) c (X0 ++ beBytes x z) ∧ Chg w w' p A0 ∧ Later w A0 A := by
  subst hzI
  go_enter Tryz.func100, Tryz.ntmps100
  go_wp2_with fail
  go_loopw [6] (fun i wr => ∃ (m c : Nat) (A : Option Addr), m ≤ z ∧ (i = .int .i64 ((z : Int) - 1 - (m : Int))) ∧ Wtr wr wI.heap.size p A (n0 + m) c (X0 ++ (beBytes x z).take m) ∧ Chg w wr p A0 ∧ Later w A0 A) (fun i _ => (1 + intOf i).toNat)
  case atStart => exact ⟨0, c0, A0, by omega, by congr 1; omega, by simpa using hW, Chg.refl _ _ _, Later.refl _ _⟩
  case round =>
    obtain ⟨m, c, A, hm, rfl, hWr, hC, hLt⟩ := hrel
    by_cases hlt : m < z
    · go_upto_region 3 with (fail)
      have hb := hWr.blk
      have own := hWr.own
      have hA := hWr.ne
      obtain ⟨n, hnn⟩ : ∃ n, n = n0 + m := ⟨_, rfl⟩
      obtain ⟨X, hX⟩ : ∃ X, X = X0 ++ (beBytes x z).take m := ⟨_, rfl⟩
      rw [← hnn, ← hX] at own
      rw [← hnn] at hb
      have hEW := hW.chg_ext hEI hC
      obtain ⟨W, hWW⟩ : ∃ W, W = wr := ⟨_, rfl⟩
      rw [← hWW] at own hb hEW ⊢
      have hAlt : ∀ k, blk A = some k → k < W.heap.size := fun k hk => (own.lt hk).2
      have Hnn := Lib.hid hnn
      have HX := Lib.hid hX
      have HWW := Lib.hid hWW
      have hn16 : n ≤ 70368744177668 := by omega
      clear hnn hX hWW
      refine par_app (n := 12) 11 hEW own (by kernel_rfl) [.is (.pointer (some ⟨p, 0, none⟩)), .is (.pointer (some ⟨p, 0, none⟩)), .is (.pointer (some ⟨p, 0, none⟩)), .is (.pointer (some ⟨p, 0, none⟩)), .is (.slice (A) (n) (c)), .is (.int .u32 (u32i (x))), .is (.int .i64 ((z : Int) - 1 - (m : Int))), .is (.int .i64 ((8 : Int) * ((z : Int) - 1 - (m : Int)))), .is (.int .u32 (u32i (shr x (8 * (z - 1 - m))))), .is (.int .u8 (u8i ((shr x (8 * (z - 1 - m)))).toUInt8)), .rbf (W.heap.size) ([((shr x (8 * (z - 1 - m)))).toUInt8]), .app (wI.heap.size) (W.heap.size) (A) (n + 1) (X ++ [(shr x (8 * (z - 1 - m))).toUInt8])] rfl ⟨?_, ?_, ?_, ?_, ?_, ?_, ?_, ?_, ?_, ?_, ?_, ?_, trivial⟩ ?_
      · refine stepEA rfl (by decide) fun sdn sa sw sG sE sd sk => ?_
        have h0 : sa.eval (.tmp 0) = .pointer (some ⟨p, 0, none⟩) := sk.old 0 rfl
        exact Runs.move rfl h0 ⟨Ext.refl _, rfl⟩
      · refine stepEA rfl (by decide) fun sdn sa sw sG sE sd sk => ?_
        have h0 : sa.eval (.tmp 0) = .pointer (some ⟨p, 0, none⟩) := sk.old 0 rfl
        exact Runs.move rfl h0 ⟨Ext.refl _, rfl⟩
      · refine stepEA rfl (by decide) fun sdn sa sw sG sE sd sk => ?_
        have h14 : sa.eval (.tmp 14) = .pointer (some ⟨p, 0, none⟩) := sk.fact 1 14 rfl (sd 1 rfl)
        exact Runs.nil_ rfl h14 ⟨Ext.refl _, rfl⟩
      · refine stepEA rfl (by decide) fun sdn sa sw sG sE sd sk => ?_
        have h15 : sa.eval (.tmp 15) = .pointer (some ⟨p, 0, none⟩) := sk.fact 2 15 rfl (sd 2 rfl)
        refine Runs.of_run (r := .pointer (some ⟨p, 0, none⟩)) (w' := sw) ?_ ⟨Ext.refl _, rfl⟩
        unfold execOp
        simp only [h15]
        go_simp
      · refine stepEA rfl (by decide) fun sdn sa sw sG sE sd sk => ?_
        have h16 : sa.eval (.tmp 16) = .pointer (some ⟨p, 0, none⟩) := sk.fact 3 16 rfl (sd 3 rfl)
        exact Runs.load rfl h16 (run_load1 Tryz.underlying26 rfl (Blk.cell (hb.grown sG (by intro e; exact hA e.symm)) rfl)) ⟨Ext.refl _, rfl⟩
      · refine stepEA rfl (by decide) fun sdn sa sw sG sE sd sk => ?_
        have h1 : sa.eval (.tmp 1) = .int .u32 (u32i (x)) := sk.old 1 rfl
        exact Runs.move rfl h1 ⟨Ext.refl _, rfl⟩
      · refine stepEA rfl (by decide) fun sdn sa sw sG sE sd sk => ?_
        have h6 : sa.eval (.tmp 6) = .int .i64 ((z : Int) - 1 - (m : Int)) := sk.old 6 rfl
        exact Runs.move rfl h6 ⟨Ext.refl _, rfl⟩
      · refine stepEA rfl (by decide) fun sdn sa sw sG sE sd sk => ?_
        have h19 : sa.eval (.tmp 19) = .int .i64 ((z : Int) - 1 - (m : Int)) := sk.fact 6 19 rfl (sd 6 rfl)
        exact Runs.bin rfl rfl h19 (eqGuard_bin rfl) (bin_mul64 _ _ _ (by omega) (by omega)) ⟨Ext.refl _, rfl⟩
      · refine stepEA rfl (by decide) fun sdn sa sw sG sE sd sk => ?_
        have h18 : sa.eval (.tmp 18) = .int .u32 (u32i (x)) := sk.fact 5 18 rfl (sd 5 rfl)
        have h20 : sa.eval (.tmp 20) = .int .i64 ((8 : Int) * ((z : Int) - 1 - (m : Int))) := sk.fact 7 20 rfl (sd 7 rfl)
        exact Runs.bin rfl h18 h20 (eqGuard_bin rfl) (bin_shr32 _ _ (8 * (z - 1 - m)) _ (by omega) (by omega)) ⟨Ext.refl _, rfl⟩
      · refine stepEA rfl (by decide) fun sdn sa sw sG sE sd sk => ?_
        have h21 : sa.eval (.tmp 21) = .int .u32 (u32i (shr x (8 * (z - 1 - m)))) := sk.fact 8 21 rfl (sd 8 rfl)
        exact Runs.conv rfl h21 (conv_u32_u8 Tryz.underlying56 Tryz.underlying5 _) ⟨Ext.refl _, rfl⟩
      · refine stepEA rfl (by decide) fun sdn sa sw sG sE sd sk => ?_
        have h22 : sa.eval (.tmp 22) = .int .u8 (u8i ((shr x (8 * (z - 1 - m)))).toUInt8) := sk.fact 9 22 rfl (sd 9 rfl)
        exact Runs.lit1 rfl h22 (fun w1 e1 o1 => ⟨e1, _, _, _, rfl, o1.rb, fun k hk => by have h9 := (o1.lt hk).1; have h8 := sG.size; omega⟩)
      · refine stepApp (N := n + 1) (q := W.heap.size) rfl rfl (by omega) rfl rfl (Nat.le_refl _) ⟨.inr (stays_is _ _), .inr (stays_is _ _), .inr (stays_is _ _), .inr (stays_is _ _), .inr (stays_is _ _), .inr (stays_is _ _), .inr (stays_is _ _), .inr (stays_is _ _), .inr (stays_is _ _), .inr (stays_is _ _), .inr (stays_rbf hAlt), .inl rfl, trivial⟩ fun sdn sa sw sG sE sd sk => ?_
        have h17 : sa.eval (.tmp 17) = .slice (A) (n) (c) := sk.fact 4 17 rfl (sd 4 rfl)
        obtain ⟨A23, n23, c23, h23, r23, q23⟩ := sk.fact 10 23 rfl (sd 10 rfl)
        exact ⟨h17, A23, n23, c23, h23, r23, by rw [← r23.len]; rfl⟩
      ·
        intro vals W1 hG hE hv
        have e0 : vals 0 = .pointer (some ⟨p, 0, none⟩) := hv 0 (by omega) 13 rfl
        have e1 : vals 1 = .pointer (some ⟨p, 0, none⟩) := hv 1 (by omega) 14 rfl
        have e2 : vals 2 = .pointer (some ⟨p, 0, none⟩) := hv 2 (by omega) 15 rfl
        have e3 : vals 3 = .pointer (some ⟨p, 0, none⟩) := hv 3 (by omega) 16 rfl
        have e4 : vals 4 = .slice (A) (n) (c) := hv 4 (by omega) 17 rfl
        have e5 : vals 5 = .int .u32 (u32i (x)) := hv 5 (by omega) 18 rfl
        have e6 : vals 6 = .int .i64 ((z : Int) - 1 - (m : Int)) := hv 6 (by omega) 19 rfl
        have e7 : vals 7 = .int .i64 ((8 : Int) * ((z : Int) - 1 - (m : Int))) := hv 7 (by omega) 20 rfl
        have e8 : vals 8 = .int .u32 (u32i (shr x (8 * (z - 1 - m)))) := hv 8 (by omega) 21 rfl
        have e9 : vals 9 = .int .u8 (u8i ((shr x (8 * (z - 1 - m)))).toUInt8) := hv 9 (by omega) 22 rfl
        obtain ⟨A23, n23, c23, e10, r23, q23⟩ := hv 10 (by omega) 23 rfl
        obtain ⟨A24, c24, e11, o24, b24⟩ := hv 11 (by omega) 24 rfl
        simp only [putAll, Act.put, List.take_succ_cons, List.take_zero, List.drop_succ_cons, List.drop_zero, List.drop_nil, List.take_nil, Nat.reduceAdd, List.setIfInBounds_toArray, List.set_cons_succ, List.set_cons_zero, e0, e1, e2, e3, e4, e5, e6, e7, e8, e9, e10, e11]
        clear hv e0 e1 e2 e3 e4 e5 e6 e7 e8 e9 e10 e11
        have hb1 : Blk W1 p 130 #[.slice A n c] := hb.grown hG (by intro e; exact hA e.symm)
        have y1 := hb1.cell (i := 0) rfl
        have y2 := hb1.frozen 0
        go_wp2_with fail
        have hne : blk A24 ≠ some p := by
          rcases b24 with e | ⟨k, e, hk⟩
          · rw [e]; exact hA
          · rw [e]; intro e2; cases e2; have := hb.lt; omega
        go_roundw
        case rel =>
          refine ⟨m + 1, c24, A24, by omega, by go_num, ⟨?_, ?_, hne, hW.base⟩, ?_, ?_⟩
          · have h1 := hb1.set 0 (.slice A24 (n + 1) c24)
            have e : n0 + (m + 1) = n + 1 := by have := Hnn.out; omega
            rw [e]
            exact h1
          · have h2 := o24.far (p := ⟨p, 0, none⟩) (u := .slice A24 (n + 1) c24) hne
            rw [beBytes_take _ _ _ hlt, ← List.append_assoc, ← HX.out, ← Nat.add_assoc, ← Hnn.out]
            exact h2
          · rw [HWW.out] at hG
            refine hC.trans hLt ⟨hG.os, hG.tape, hG.output, by simpa [World.setCell] using hG.size, fun k hk h1 h2 => ?_⟩
            exact (Below.heap_setCell W1 ⟨p, 0, none⟩ _ k h1).trans (hG.block k hk (fun e => h2 e.symm))
          · refine hLt.trans hC.size ?_
            rw [HWW.out] at b24
            rcases b24 with e | e
            · exact .inl e
            · exact .inr (.inr e)
        case measure => simp [intOf]; omega
    · obtain rfl : m = z := by omega
      rw [List.take_of_length_le (by rw [beBytes_length]; exact Nat.le_refl _)] at hWr
      go_wp2_with fail
      go_end0
      exact ⟨rfl, A, c, hWr, hC, hLt⟩
end Go.Proofs.YtkndgpjamijbbaaGreat
namespace Go.Proofs.YtkndgpjamijbbaaGreat
set_option maxRecDepth 100000
open Go Go.RowKit
/-- behind a call that wrote: the Writer holds M; nothing but its own memory was turned -/
def WP (wI w : World) (p : Nat) (A0 : Option Addr) (N : Nat) (M : List UInt8) (w' : World) : Prop := ∃ A c, Wtr w' wI.heap.size p A N c M ∧ Chg w w' p A0 ∧ Later w A0 A
theorem conv_u8_u32' {P : Program} {w : World} {s t : TypeId} (hs : P.underlying s = some (.int .u8)) (ht : P.underlying t = some (.int .u32)) (b : UInt8) : (convert s t (.int .u8 (u8i b))).run P w = .ok (.int .u32 (u32i b.toUInt32)) w := conv_u8_u32 hs ht b
set_option maxHeartbeats 400000 in
theorem wnew_any (w : World) : Calls Tryz.prog 85 #[] w fun e w' => ∃ p, e = .returned (.pointer (some ⟨p, 0, none⟩)) ∧ Wtr w' w.heap.size p none 0 0 [] ∧ Ext w w' := by
  go_enter Tryz.func85, Tryz.ntmps85
  go_wp2_with fail
  go_ret
  exact ⟨w.heap.size, rfl, ⟨Blk.new w _ _, OB.none_ _ _, by simp [blk], Nat.le_refl _⟩, Ext.new w _⟩
set_option maxHeartbeats 400000 in
theorem wnum_any (wI w : World) (p n0 c0 : Nat) (A0 : Option Addr) (X0 : List UInt8) (x : UInt32) (hEI : Ext wI w) (hW : Wtr w wI.heap.size p A0 n0 c0 X0) (hn : n0 ≤ 70368744177664) :
    Calls Tryz.prog 87 #[.pointer (some ⟨p, 0, none⟩), .int .u32 (u32i x)] w fun e w' => e = .returned (.tuple #[]) ∧ WP wI w p A0 (n0 + 4) (X0 ++ beBytes x 4) w' := by
  go_enter Tryz.func87, Tryz.ntmps87
  go_wp2_with fail
  refine (wnumber_any wI w p n0 c0 A0 X0 x 4 _ rfl (by omega) (by omega) hEI hW hn).mono ?_
  rintro e w' ⟨rfl, A, c, h1, h2, h3⟩
  go_wp2_with fail
  go_end0
  exact ⟨rfl, A, c, h1, h2, h3⟩
set_option maxHeartbeats 400000 in
theorem wraw_any (wI w : World) (p n0 c0 m d : Nat) (A0 B : Option Addr) (X0 M : List UInt8) (hEI : Ext wI w) (hW : Wtr w wI.heap.size p A0 n0 c0 X0) (hr : RB w B m d M) (hn : n0 + m ≤ 140737488355328) :
    Calls Tryz.prog 86 #[.pointer (some ⟨p, 0, none⟩), .slice B m d] w fun e w' => e = .returned (.tuple #[]) ∧ WP wI w p A0 (n0 + m) (X0 ++ M) w' := by
  have y1 := hW.blk.cell (i := 0) rfl
  have hb := hW.blk
  have own := hW.own
  go_enter Tryz.func86, Tryz.ntmps86
  go_wp2_with (refine app_law rfl rfl rfl rfl own hr hn hEI.size ?_; intro A' c' w1 own1 g1 b1 s1; have y2 := (hb.grown g1 (by intro e; exact hW.ne e.symm)).cell (i := 0) rfl; have y3 := (hb.grown g1 (by intro e; exact hW.ne e.symm)).frozen 0)
  have hb1 := hb.grown g1 (by intro e; exact hW.ne e.symm)
  have hne : blk A' ≠ some p := by
    rcases b1 with e | e
    · rw [e]; exact hW.ne
    · rw [e]; intro e2; cases e2; have := hb.lt; omega
  go_end0
  refine ⟨rfl, A', c', ⟨hb1.set 0 _, own1.far hne, hne, hW.base⟩, ⟨g1.os, g1.tape, g1.output, by simpa [World.setCell] using g1.size, fun k hk h1 h2 => ?_⟩, ?_⟩
  · exact (Below.heap_setCell w1 ⟨p, 0, none⟩ _ k h1).trans (g1.block k hk (fun e => h2 e.symm))
  · rcases b1 with e | e
    · exact .inl e
    · exact .inr (.inr ⟨_, e, Nat.le_refl _⟩)
theorem conv_i64_u32 {P : Program} {w : World} {s t : TypeId} (hs : P.underlying s = some (.int .i64)) (ht : P.underlying t = some (.int .u32)) (n : Nat) : (convert s t (.int .i64 (n : Int))).run P w = .ok (.int .u32 (u32i (UInt32.ofNat n))) w := by
  have e : IntKind.u32.wrap (n : Int) = u32i (UInt32.ofNat n) := by
    unfold u32i
    rw [u32_wrap, UInt32.toNat_ofNat']
  simp [convert, run_underlying hs, run_underlying ht, Conv.intToInt, e]
def be2 (n : Nat) : List UInt8 := beBytes (UInt32.ofNat n) 2
theorem WP.trans {wI w w1 w2 : World} {p N N' : Nat} {A0 : Option Addr} {M M' : List UInt8} {A : Option Addr} {c : Nat} (h1 : Wtr w1 wI.heap.size p A N c M) (h2 : Chg w w1 p A0) (h3 : Later w A0 A) (k : WP wI w1 p A N' M' w2) : WP wI w p A0 N' M' w2 := by
  obtain ⟨A', c', k1, k2, k3⟩ := k
  exact ⟨A', c', k1, h2.trans h3 k2, h3.trans h2.size k3⟩
set_option maxHeartbeats 400000 in
theorem wdone_any (w : World) (base p n0 c0 : Nat) (A0 : Option Addr) (X0 : List UInt8) (hW : Wtr w base p A0 n0 c0 X0) (hn : n0 ≤ 140737488355328) :
    Calls Tryz.prog 88 #[.pointer (some ⟨p, 0, none⟩)] w fun e w' => ∃ B d, e = .returned (.slice B n0 d) ∧ OB w' w.heap.size B n0 d X0 ∧ Ext w w' := by
  have y1 := hW.blk.cell (i := 0) rfl
  go_enter Tryz.func88, Tryz.ntmps88
  go_wp2_with fail
  refine (clone_any A0 n0 c0 X0 w hW.own.rb hn).mono ?_
  rintro e w1 ⟨B, d, rfl, h1, h2⟩
  go_wp2_with fail
  go_ret
  exact ⟨B, d, rfl, h1, h2⟩
end Go.Proofs.YtkndgpjamijbbaaGreat

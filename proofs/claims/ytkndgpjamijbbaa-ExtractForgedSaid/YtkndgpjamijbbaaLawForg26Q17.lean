/-
  once.Sign again: each part lies in a block of the call's own. sign.above, sign.leaves, sign.Public and sign.Sign, walked. sign.Sign, walked. Rows of unlike types lie in unlike blocks. Plain theorems. Appending many slices to a row of the call's own.
-/
import Derived.Test.YtkndgpjamijbbaaLawForg26Q16
import Derived.Test.YtkndgpjamijbbaaLawForg26Q14
namespace Go.Proofs.Ytkndgpjamijbbaa
set_option maxRecDepth 100000
open Go Go.RowKit
/-- a row of byte slices of the call's own, each in a block of the call's own -/
def OBD (w : World) (base : Nat) (A : Option Addr) (n c : Nat) (Ls : List (List UInt8)) : Prop :=
  ∃ vs : List Value, w.ownsRow base 22 1 (.slice A n c) n vs ∧ Ls.length = n ∧ ∀ j, j < n → ∃ g d, vs[j]? = some (.slice (some ⟨g, 0, none⟩) 32 d) ∧ OB w base (some ⟨g, 0, none⟩) 32 d (lb Ls j) ∧ some g ≠ blk A
theorem OBD.none_ (w : World) (base : Nat) : OBD w base none 0 0 [] := ⟨[], World.ownsRow_nil w _ _ _, rfl, fun j hj => absurd hj (Nat.not_lt_zero _)⟩
theorem OBD.ext {w w' : World} {base : Nat} {A : Option Addr} {n c : Nat} {Ls : List (List UInt8)} (h : OBD w base A n c Ls) (e : Ext w w') : OBD w' base A n c Ls := by
  obtain ⟨vs, h1, h2, h3⟩ := h
  refine ⟨vs, World.ownsRow.kept h1 (e.grownBy none) ?_, h2, fun j hj => ?_⟩
  · cases hb : Value.ownBlock (.slice A n c) <;> simp
  · obtain ⟨g, d, h4, h5, h6⟩ := h3 j hj
    exact ⟨g, d, h4, h5.ext e, h6⟩
theorem OBD.lt {w : World} {base n c : Nat} {A : Option Addr} {Ls : List (List UInt8)} (h : OBD w base A n c Ls) {k : Nat} (hk : blk A = some k) : base ≤ k ∧ k < w.heap.size := by
  obtain ⟨vs, h1, _⟩ := h
  exact World.ownsRow.lt h1 k (by rw [ownBlock_slice]; exact hk)
theorem ownsRow_base {w : World} {base base' : Nat} {t : TypeId} {v : Value} {n : Nat} {vs : List Value} (h : w.ownsRow base t 1 v n vs) (hb : base' ≤ base) : w.ownsRow base' t 1 v n vs := by
  refine ⟨h.1, ?_⟩
  rcases h.2 with h0 | ⟨g, cap, cur, e, hg, h1⟩
  · exact .inl h0
  · exact .inr ⟨g, cap, cur, e, Nat.le_trans hb hg, h1⟩
theorem OBD.base {w : World} {base base' n c : Nat} {A : Option Addr} {Ls : List (List UInt8)} (h : OBD w base A n c Ls) (hb : base' ≤ base) : OBD w base' A n c Ls := by
  obtain ⟨vs, h1, h2, h3⟩ := h
  refine ⟨vs, ownsRow_base h1 hb, h2, fun j hj => ?_⟩
  obtain ⟨g, d, h4, h5, h6⟩ := h3 j hj
  exact ⟨g, d, h4, h5.base hb, h6⟩
theorem OBD.obc {w : World} {base : Nat} {A : Option Addr} {n c : Nat} {Ls : List (List UInt8)} (h : OBD w base A n c Ls) : OBC w base A n c Ls := by
  obtain ⟨vs, h1, h2, h3⟩ := h
  refine ⟨vs, h1, h2, fun j hj => ?_⟩
  obtain ⟨g, d, h4, h5, h6⟩ := h3 j hj
  exact ⟨_, _, _, h4, h5.rb, fun _ => h6⟩
theorem appbd_law {ops : Array Oper} {rest : List Oper} {o : Oper} {a : Act} {Q : Exit → Act → World → Prop} {w : World} (hgd : o.guard = none) {s x : Operand} (ho : o.op = .call { callee := .builtin .append, args := #[s, x], argTypes := #[23, 23] })
    {A : Option Addr} {n c : Nat} (hs : a.eval s = .slice A n c) {ad : Addr} (hx : a.eval x = .slice (some ad) 1 1) {base : Nat} {Ls : List (List UInt8)} {g d : Nat} {Y : List UInt8} (hcell : w.cell? (ad.add 0) = some (.slice (some ⟨g, 0, none⟩) 32 d))
    (hown : OBD w base A n c Ls) (hB : OB w base (some ⟨g, 0, none⟩) 32 d Y) (hne : some g ≠ blk A) (hbase : base ≤ w.heap.size) (hnk : n + 1 ≤ 1000000)
    (h : ∀ A' c' w', OBD w' base A' (n + 1) c' (Ls ++ [Y]) → w.grownBy w' (blk A) → wpList Try.prog ops Q rest (a.put o.dst (.slice A' (n + 1) c')) w') : wpList Try.prog ops Q (o :: rest) a w := by
  obtain ⟨i0, hi0, hz0, hz1, hz2⟩ := info_parts info_bb'
  obtain ⟨vs, h1, h2, h3⟩ := hown
  obtain ⟨v', w', hrun, r1, r2, _, r4⟩ := run_append_own_at (P := Try.prog) w base 23 o.type 22 i0 (.slice none 0 0) 1 24 Try.underlying23 hi0 hz0 hz1 hz2 rfl (by decide) (.slice A n c) n vs h1 ad 1 1 [.slice (some ⟨g, 0, none⟩) 32 d] rfl
    (by
      intro j u hu
      rcases j with _ | j
      · injection hu with hu
        subst hu
        exact hcell
      · cases hu) (by simp [Value.oneCell']) (small_maxLen hnk) (by omega) hbase
  obtain ⟨A', c', rfl⟩ : ∃ A' c', v' = .slice A' (n + 1) c' := by
    rcases r1.2 with ⟨_, h0⟩ | ⟨g, cap, _, rfl, _⟩
    · omega
    · exact ⟨_, cap, rfl⟩
  rw [ownBlock_slice] at r2 r4
  rw [ownBlock_slice] at r4
  have hne' : ∀ (g' m' d' : Nat) (Y' : List UInt8), OB w base (some ⟨g', 0, none⟩) m' d' Y' → some g' ≠ blk A → some g' ≠ blk A' := by
    intro g' m' d' Y' hb hn e
    rcases r4 with r4 | r4
    · exact hn (e.trans r4)
    · have h5 := (hb.lt (k := g') rfl).2
      have h6 := e.trans r4
      injection h6 with h6
      omega
  have hvl : vs.length = n := by have := h1.1; omega
  refine run_law hgd (v := .slice A' (n + 1) c') (w' := w') ?_ (h A' c' w' ⟨vs ++ [.slice (some ⟨g, 0, none⟩) 32 d], r1, by rw [List.length_append]; simp; omega, fun j hj => ?_⟩ r2)
  · unfold execOp
    simp only [ho, resolve, invoke, builtin, Sem.run_bind, Sem.run_pure, Result.andThen_ok, List.map_toArray, List.map_cons, List.map_nil, hs, hx, hrun]
  · by_cases hjn : j < n
    · obtain ⟨g', d', h4, h5, h6⟩ := h3 j hjn
      refine ⟨g', d', by rw [List.getElem?_append_left (by omega)]; exact h4, ?_, hne' _ _ _ _ h5 h6⟩
      have e : lb (Ls ++ [Y]) j = lb Ls j := by unfold lb; simp [List.getElem?_append_left (show j < Ls.length by omega)]
      rw [e]
      exact h5.grown r2 (.inr h6)
    · obtain rfl : j = n := by omega
      refine ⟨g, d, by rw [List.getElem?_append_right (by omega), hvl]; simp, ?_, hne' _ _ _ _ hB hne⟩
      have e : lb (Ls ++ [Y]) j = Y := by unfold lb; simp [← h2]
      rw [e]
      exact hB.grown r2 (.inr hne)
end Go.Proofs.Ytkndgpjamijbbaa
namespace Go.Proofs.Ytkndgpjamijbbaa
set_option maxRecDepth 100000
open Go Go.RowKit
noncomputable def infZZ : TypeInfo := (Try.prog.info? 22).getD default
theorem infZZ_eq : Try.prog.info? 22 = some infZZ := by kernel_rfl
theorem infZZ_size : infZZ.size = 1 := by kernel_rfl
theorem OBD.len {w : World} {base n c : Nat} {A : Option Addr} {Ls : List (List UInt8)} (h : OBD w base A n c Ls) : Ls.length = n := by
  obtain ⟨vs, _, h2, _⟩ := h
  exact h2
theorem OBD.plain {w : World} {base n c : Nat} {A : Option Addr} {Ls : List (List UInt8)} (h : OBD w base A n c Ls) (hn : 0 < n) : ∃ g, A = some ⟨g, 0, none⟩ := by
  obtain ⟨ad, rfl, _⟩ := h.obc.rbb.cells hn
  obtain ⟨g, rfl⟩ := h.obc.plain
  exact ⟨g, rfl⟩
theorem OBD.cell {w : World} {base n c g : Nat} {Ls : List (List UInt8)} (h : OBD w base (some ⟨g, 0, none⟩) n c Ls) {j : Nat} (hj : j < n) :
    ∃ g' d', w.cell? ((⟨g, 0, none⟩ : Addr).add j) = some (.slice (some ⟨g', 0, none⟩) 32 d') ∧ OB w base (some ⟨g', 0, none⟩) 32 d' (lb Ls j) := by
  obtain ⟨vs, h1, h2, h3⟩ := h
  obtain ⟨g', d', h4, h5, _⟩ := h3 j hj
  exact ⟨g', d', World.ownsRow.cells h1 (g := g) (by rw [ownBlock_slice]; rfl) j _ h4, h5⟩
theorem OBD.grown {w w' : World} {base n c : Nat} {A : Option Addr} {Ls : List (List UInt8)} (h : OBD w base A n c Ls) {row : Option Nat} (e : w.grownBy w' row) (hr : ∀ k, row = some k → k < base) : OBD w' base A n c Ls := by
  have hA : Value.ownBlock (.slice A n c) = none ∨ Value.ownBlock (.slice A n c) ≠ row := by
    rw [ownBlock_slice]
    cases hb : blk A with
    | none => exact .inl rfl
    | some k =>
      refine .inr fun e => ?_
      have h1 := (h.lt hb).1
      have h2 := hr k e.symm
      omega
  obtain ⟨vs, h1, h2, h3⟩ := h
  refine ⟨vs, World.ownsRow.kept h1 e hA, h2, fun j hj => ?_⟩
  obtain ⟨g, d, h4, h5, h6⟩ := h3 j hj
  refine ⟨g, d, h4, h5.grown e (.inr fun e' => ?_), h6⟩
  have h7 := h5.ge
  have h8 := hr g e'.symm
  omega
def MP.one32 (b : Nat) (L : List UInt8) : MP Ext := ⟨fun u w => ∃ x g d, u = .slice (some ⟨x, 0, none⟩) 1 1 ∧ w.cell? ((⟨x, 0, none⟩ : Addr).add 0) = some (.slice (some ⟨g, 0, none⟩) 32 d) ∧ OB w b (some ⟨g, 0, none⟩) 32 d L, fun _ _ _ e ⟨x, g, d, h1, h2, h3⟩ => ⟨x, g, d, h1, e.cell h2, h3.ext e⟩⟩
def MP.one1 (v : Value) : MP Ext := ⟨fun u w => ∃ x, u = .slice (some ⟨x, 0, none⟩) 1 1 ∧ w.cell? ((⟨x, 0, none⟩ : Addr).add 0) = some v, fun _ _ _ e ⟨x, h1, h2⟩ => ⟨x, h1, e.cell h2⟩⟩
def MP.ob32 (b : Nat) (L : List UInt8) : MP Ext := ⟨fun u w => ∃ g d, u = .slice (some ⟨g, 0, none⟩) 32 d ∧ OB w b (some ⟨g, 0, none⟩) 32 d L, fun _ _ _ e ⟨g, d, h1, h2⟩ => ⟨g, d, h1, h2.ext e⟩⟩
theorem Runs.one1 {o : Oper} {ρ : Operand → Value} {w : World} {G : Value → World → Prop} {y0 : Operand} {B0 : Option Addr} {m0 d0 : Nat} (ho : o.op = .buildSlice 23 1 #[(0, y0)]) (e0 : ρ y0 = .slice B0 m0 d0)
    (h : ∀ w', Ext w w' → w'.cell? ((⟨w.heap.size, 0, none⟩ : Addr).add 0) = some (.slice B0 m0 d0) → G (.slice (some ⟨w.heap.size, 0, none⟩) 1 1) w') : Runs Try.prog o ρ w G := by
  refine Runs.of_run (r := .slice (some ⟨w.heap.size, 0, none⟩) 1 1) ?_ (h _ (Ext.new w _) (by rw [add_plain]; exact (Blk.new w 22 #[.slice B0 m0 d0]).cell (i := 0) rfl))
  unfold execOp
  simp only [ho, e0, List.map_toArray, List.map_cons, List.map_nil, Sem.run_bind, run_ss1, Result.andThen_ok, Sem.run_pure]
def AboveI (w : World) (n : Nat) (Ls : List (List UInt8)) (v i : Value) (wr : World) : Prop :=
  ∃ (k d : Nat) (P : Option Addr), 2 * k ≤ n ∧ i = .int .i64 ((2 * k : Nat) : Int) ∧ v = .slice P k d ∧ OBD wr w.heap.size P k d ((List.range k).map fun i => nodeV (lb Ls (2 * i)) (lb Ls (2 * i + 1))) ∧ Ext w wr
def LeavesI (w : World) (S : List UInt8) (v i : Value) (wr : World) : Prop :=
  ∃ (k d : Nat) (P : Option Addr), k ≤ 16 ∧ i = .int .i64 k ∧ v = .slice P k d ∧ OBD wr w.heap.size P k d ((List.range k).map fun k => publicL S ((k : Nat) : Int)) ∧ Ext w wr
theorem pow_step {h : Nat} (hh : h < 4) : 16 / 2 ^ h ≤ 16 ∧ 16 / 2 ^ h % 2 = 0 ∧ 16 / 2 ^ h / 2 = 16 / 2 ^ (h + 1) ∧ 2 ≤ 16 / 2 ^ h := by
  obtain rfl | rfl | rfl | rfl : h = 0 ∨ h = 1 ∨ h = 2 ∨ h = 3 := by omega
  all_goals decide
end Go.Proofs.Ytkndgpjamijbbaa
namespace Go.Proofs.Ytkndgpjamijbbaa
set_option maxRecDepth 100000
open Go Go.RowKit
theorem grown_set (w : World) (a : Addr) (u : Value) : w.grownBy (w.setCell a u) (some a.block) := ⟨rfl, rfl, rfl, by simp [World.setCell], fun i _ hne => Below.heap_setCell w a u i fun e => hne (by rw [e])⟩
theorem bin_xor1 {P : Program} {w : World} (t : TypeId) (q : Nat) (hq : q < 16) : (binOp .xor t (.int .i64 (q : Int)) (.int .i64 1)).run P w = .ok (.int .i64 ((q + 1 - 2 * (q % 2) : Nat) : Int)) w := by
  have h : q = 0 ∨ q = 1 ∨ q = 2 ∨ q = 3 ∨ q = 4 ∨ q = 5 ∨ q = 6 ∨ q = 7 ∨ q = 8 ∨ q = 9 ∨ q = 10 ∨ q = 11 ∨ q = 12 ∨ q = 13 ∨ q = 14 ∨ q = 15 := by omega
  rcases h with rfl | rfl | rfl | rfl | rfl | rfl | rfl | rfl | rfl | rfl | rfl | rfl | rfl | rfl | rfl | rfl
  all_goals rfl
def sliceLen : Value → Nat
  | .slice _ n _ => n
  | _ => 0
theorem OBC.base {w : World} {base base' n c : Nat} {A : Option Addr} {Ls : List (List UInt8)} (h : OBC w base A n c Ls) (hb : base' ≤ base) : OBC w base' A n c Ls := by
  obtain ⟨vs, h1, h2⟩ := h
  exact ⟨vs, ownsRow_base h1 hb, h2⟩
end Go.Proofs.Ytkndgpjamijbbaa
namespace Go.Proofs.Ytkndgpjamijbbaa
set_option maxRecDepth 100000
open Go Go.RowKit
/-- the block of this number holds cells of another type than byte slices and bytes -/
def Other (w : World) (k : Nat) : Prop := ∃ cs t fr, w.heap[k]? = some (.cells cs t fr) ∧ t ≠ 22 ∧ t ≠ 5
theorem Blk.other {w : World} {g : Nat} {t : TypeId} {cs : Array Value} (h : Blk w g t cs) (h1 : t ≠ 22) (h2 : t ≠ 5) : Other w g := ⟨cs, t, (0, 0), h, h1, h2⟩
theorem row_type {w : World} {base : Nat} {e : TypeId} {s : Nat} {v : Value} {n : Nat} {xs : List Value} (h : w.ownsRow base e s v n xs) {k : Nat} (hk : v.ownBlock = some k) : ∃ cs, w.heap[k]? = some (.cells cs e (0, 0)) := by
  rcases h.2 with ⟨e, _⟩ | ⟨g, cap, cur, e, _, h1, _⟩
  · rw [e] at hk; cases hk
  · rw [e] at hk
    have h2 : some g = some k := hk
    injection h2 with h2
    subst h2
    exact ⟨cur, h1⟩
theorem row_other {w : World} {base : Nat} {e : TypeId} {s : Nat} {v : Value} {n : Nat} {xs : List Value} (h : w.ownsRow base e s v n xs) (h1 : e ≠ 22) (h2 : e ≠ 5) {k : Nat} (hk : v.ownBlock = some k) : Other w k := by
  obtain ⟨cs, hc⟩ := row_type h hk
  exact ⟨cs, e, (0, 0), hc, h1, h2⟩
theorem row_ne {w : World} {base : Nat} {e : TypeId} {s : Nat} {v : Value} {n : Nat} {xs : List Value} (h : w.ownsRow base e s v n xs) {k : Nat} {cs : Array Value} {t : TypeId} {fr : Nat × Nat} (hk : w.heap[k]? = some (.cells cs t fr)) (ht : t ≠ e) : v.ownBlock ≠ some k := by
  intro he
  obtain ⟨cs', hc⟩ := row_type h he
  rw [hc] at hk
  injection hk with hk
  injection hk with _ h2
  exact ht h2.symm
theorem OB.other {w : World} {base g n c : Nat} {L : List UInt8} (h : OB w base (some ⟨g, 0, none⟩) n c L) {k : Nat} (hk : Other w k) : some g ≠ some k := by
  obtain ⟨cs, t, fr, h1, h2, h3⟩ := hk
  have := row_ne h h1 h3
  rw [ownBlock_slice] at this
  exact this
theorem OBD.far {w w' : World} {base n c : Nat} {A : Option Addr} {Ls : List (List UInt8)} (h : OBD w base A n c Ls) {row : Option Nat} (e : w.grownBy w' row) (ht : ∀ k, row = some k → Other w k) : OBD w' base A n c Ls := by
  obtain ⟨vs, h1, h2, h3⟩ := h
  refine ⟨vs, World.ownsRow.kept h1 e ?_, h2, fun j hj => ?_⟩
  · cases row with
    | none => cases hb : Value.ownBlock (.slice A n c) <;> simp
    | some k =>
      obtain ⟨cs, t, fr, g1, g2, g3⟩ := ht k rfl
      exact .inr (row_ne h1 g1 g2)
  · obtain ⟨g, d, h4, h5, h6⟩ := h3 j hj
    refine ⟨g, d, h4, h5.grown e (.inr fun e' => ?_), h6⟩
    cases row with
    | none => cases e'
    | some k => exact h5.other (ht k rfl) e'
theorem RB.apart5 {w : World} {A : Option Addr} {n c : Nat} {L : List UInt8} (h : RB w A n c L) {g : Nat} {t : TypeId} {cs : Array Value} (hb : Blk w g t cs) (hno : ∀ (i : Nat) (x : Int), cs[i]? ≠ some (.int .u8 x)) : 0 < n → blk A ≠ some g := by
  intro hn e
  obtain ⟨ad, rfl, hc⟩ := h.cells hn
  have h1 := hc 0 hn
  have h2 : ad.block = g := by simpa [blk] using e
  unfold World.cell? at h1
  have h3 : (ad.add 0).block = ad.block := rfl
  rw [h3, h2, show w.heap[g]? = _ from hb] at h1
  by_cases hs : (ad.add 0).spot.isSome = true
  · simp [hs] at h1
  · simp only [hs] at h1
    exact hno _ _ h1
theorem sig_no (x : Int) (P Q : Option Addr) (np cp nq cq i : Nat) (y : Int) : (#[.int .i64 x, .slice P np cp, .slice Q nq cq] : Array Value)[i]? ≠ some (.int .u8 y) := by
  rcases i with _ | _ | _ | i <;> simp
theorem OBC.far {w w' : World} {base n c : Nat} {A : Option Addr} {Ls : List (List UInt8)} (h : OBC w base A n c Ls) {g : Nat} {t : TypeId} {cs : Array Value} (hb : Blk w g t cs) (ht : t ≠ 22) (hno : ∀ (i : Nat) (x : Int), cs[i]? ≠ some (.int .u8 x)) (e : w.grownBy w' (some g)) : OBC w' base A n c Ls := by
  obtain ⟨vs, h1, h2, h3⟩ := h
  refine ⟨vs, World.ownsRow.kept h1 e (.inr (row_ne h1 hb ht)), h2, fun j hj => ?_⟩
  obtain ⟨B, m, d, h4, h5, h6⟩ := h3 j hj
  exact ⟨B, m, d, h4, h5.grown e (h5.apart5 hb hno), h6⟩
/-- the levels of an owner's tree, each a row of the call's own -/
def LevO (w : World) (b : Nat) (A : Option Addr) (n c : Nat) (S : List UInt8) : Prop :=
  ∃ vs : List Value, w.ownsRow b 23 1 (.slice A n c) n vs ∧ ∀ j, j < n → ∃ g d, vs[j]? = some (.slice (some ⟨g, 0, none⟩) (16 / 2 ^ j) d) ∧ OBD w b (some ⟨g, 0, none⟩) (16 / 2 ^ j) d (lev S j)
theorem LevO.none_ (w : World) (b : Nat) (S : List UInt8) : LevO w b none 0 0 S := ⟨[], World.ownsRow_nil w _ _ _, fun j hj => absurd hj (Nat.not_lt_zero _)⟩
theorem LevO.lt {w : World} {b n c : Nat} {A : Option Addr} {S : List UInt8} (h : LevO w b A n c S) {k : Nat} (hk : blk A = some k) : b ≤ k ∧ k < w.heap.size := by
  obtain ⟨vs, h1, _⟩ := h
  exact World.ownsRow.lt h1 k (by rw [ownBlock_slice]; exact hk)
theorem LevO.other {w : World} {b n c : Nat} {A : Option Addr} {S : List UInt8} (h : LevO w b A n c S) {k : Nat} (hk : blk A = some k) : Other w k := by
  obtain ⟨vs, h1, _⟩ := h
  exact row_other h1 (by decide) (by decide) (by rw [ownBlock_slice]; exact hk)
theorem LevO.ext {w w' : World} {b n c : Nat} {A : Option Addr} {S : List UInt8} (h : LevO w b A n c S) (e : Ext w w') : LevO w' b A n c S := by
  obtain ⟨vs, h1, h3⟩ := h
  refine ⟨vs, World.ownsRow.kept h1 (e.grownBy none) ?_, fun j hj => ?_⟩
  · cases hb : Value.ownBlock (.slice A n c) <;> simp
  · obtain ⟨g, d, h4, h5⟩ := h3 j hj
    exact ⟨g, d, h4, h5.ext e⟩
theorem LevO.far {w w' : World} {b n c : Nat} {A : Option Addr} {S : List UInt8} (h : LevO w b A n c S) {g : Nat} {t : TypeId} {cs : Array Value} (hb : Blk w g t cs) (h1 : t ≠ 23) (h2 : t ≠ 22) (h3 : t ≠ 5) (e : w.grownBy w' (some g)) : LevO w' b A n c S := by
  obtain ⟨vs, r1, r3⟩ := h
  refine ⟨vs, World.ownsRow.kept r1 e (.inr (row_ne r1 hb h1)), fun j hj => ?_⟩
  obtain ⟨g', d, h4, h5⟩ := r3 j hj
  exact ⟨g', d, h4, h5.far e (fun k hk => by cases hk; exact hb.other h2 h3)⟩
theorem LevO.cell {w : World} {b n c g : Nat} {S : List UInt8} (h : LevO w b (some ⟨g, 0, none⟩) n c S) {j : Nat} (hj : j < n) :
    ∃ g' d', w.cell? ((⟨g, 0, none⟩ : Addr).add j) = some (.slice (some ⟨g', 0, none⟩) (16 / 2 ^ j) d') ∧ OBD w b (some ⟨g', 0, none⟩) (16 / 2 ^ j) d' (lev S j) := by
  obtain ⟨vs, h1, h3⟩ := h
  obtain ⟨g', d', h4, h5⟩ := h3 j hj
  exact ⟨g', d', World.ownsRow.cells h1 (g := g) (by rw [ownBlock_slice]; rfl) j _ h4, h5⟩
theorem LevO.plain {w : World} {b n c : Nat} {A : Option Addr} {S : List UInt8} (h : LevO w b A n c S) (hn : 0 < n) : ∃ g, A = some ⟨g, 0, none⟩ := by
  obtain ⟨vs, h1, _⟩ := h
  rcases h1.2 with ⟨_, h0⟩ | ⟨g, cap, cur, e, _⟩
  · omega
  · injection e with e1
    exact ⟨g, e1⟩
theorem LevO.room {w : World} {b n c : Nat} {A : Option Addr} {S : List UInt8} (h : LevO w b A n c S) : n ≤ c := by
  obtain ⟨vs, h1, _⟩ := h
  rcases h1.2 with ⟨e, h0⟩ | ⟨g, cap, cur, e, _, _, h2, _⟩
  · omega
  · injection e with e1 e2 e3
    omega
theorem LevO.base {w : World} {b b' n c : Nat} {A : Option Addr} {S : List UInt8} (h : LevO w b A n c S) (hb : b' ≤ b) : LevO w b' A n c S := by
  obtain ⟨vs, h1, h3⟩ := h
  refine ⟨vs, ownsRow_base h1 hb, fun j hj => ?_⟩
  obtain ⟨g, d, h4, h5⟩ := h3 j hj
  exact ⟨g, d, h4, h5.base hb⟩
theorem info_sss : (Try.prog.info? 23).map (fun i => (i.zero, i.size, i.bytes)) = some (some (.slice none 0 0), 1, 24) := by kernel_rfl
theorem appl_law {ops : Array Oper} {rest : List Oper} {o : Oper} {a : Act} {Q : Exit → Act → World → Prop} {w : World} (hgd : o.guard = none) {s x : Operand} (ho : o.op = .call { callee := .builtin .append, args := #[s, x], argTypes := #[33, 33] })
    {A : Option Addr} {n c : Nat} (hs : a.eval s = .slice A n c) {ad : Addr} (hx : a.eval x = .slice (some ad) 1 1) {b : Nat} {S : List UInt8} {g d : Nat} (hcell : w.cell? (ad.add 0) = some (.slice (some ⟨g, 0, none⟩) (16 / 2 ^ n) d))
    (hown : LevO w b A n c S) (hB : OBD w b (some ⟨g, 0, none⟩) (16 / 2 ^ n) d (lev S n)) (hbase : b ≤ w.heap.size) (hnk : n + 1 ≤ 1000000)
    (h : ∀ A' c' w', LevO w' b A' (n + 1) c' S → OBD w' b (some ⟨g, 0, none⟩) (16 / 2 ^ n) d (lev S n) → w.grownBy w' (blk A) → wpList Try.prog ops Q rest (a.put o.dst (.slice A' (n + 1) c')) w') : wpList Try.prog ops Q (o :: rest) a w := by
  obtain ⟨i0, hi0, hz0, hz1, hz2⟩ := info_parts info_sss
  have hoth := fun k (hk : blk A = some k) => hown.other hk
  obtain ⟨vs, h1, h3⟩ := hown
  obtain ⟨v', w', hrun, r1, r2, _, r4⟩ := run_append_own_at (P := Try.prog) w b 33 o.type 23 i0 (.slice none 0 0) 1 24 Try.underlying33 hi0 hz0 hz1 hz2 rfl (by decide) (.slice A n c) n vs h1 ad 1 1 [.slice (some ⟨g, 0, none⟩) (16 / 2 ^ n) d] rfl
    (by
      intro j u hu
      rcases j with _ | j
      · injection hu with hu
        subst hu
        exact hcell
      · cases hu) (by simp [Value.oneCell']) (small_maxLen hnk) (by omega) hbase
  obtain ⟨A', c', rfl⟩ : ∃ A' c', v' = .slice A' (n + 1) c' := by
    rcases r1.2 with ⟨_, h0⟩ | ⟨g, cap, _, rfl, _⟩
    · omega
    · exact ⟨_, cap, rfl⟩
  rw [ownBlock_slice] at r2
  have hvl : vs.length = n := by have := h1.1; omega
  refine run_law hgd (v := .slice A' (n + 1) c') (w' := w') ?_ (h A' c' w' ⟨vs ++ [.slice (some ⟨g, 0, none⟩) (16 / 2 ^ n) d], r1, fun j hj => ?_⟩ (hB.far r2 hoth) r2)
  · unfold execOp
    simp only [ho, resolve, invoke, builtin, Sem.run_bind, Sem.run_pure, Result.andThen_ok, List.map_toArray, List.map_cons, List.map_nil, hs, hx, hrun]
  · by_cases hjn : j < n
    · obtain ⟨g', d', h4, h5⟩ := h3 j hjn
      exact ⟨g', d', by rw [List.getElem?_append_left (by omega)]; exact h4, h5.far r2 hoth⟩
    · obtain rfl : j = n := by omega
      exact ⟨g, d, by rw [List.getElem?_append_right (by omega), hvl]; simp, hB.far r2 hoth⟩
end Go.Proofs.Ytkndgpjamijbbaa
namespace Go.Proofs.Ytkndgpjamijbbaa
set_option maxRecDepth 100000
open Go Go.RowKit
theorem RBB.vals {w : World} {A : Option Addr} {n c : Nat} {Ls : List (List UInt8)} (h : RBB w A n c Ls) :
    ∃ us : List Value, us.length = n ∧ (∀ ad, A = some ad → ∀ j u, us[j]? = some u → w.cell? (ad.add j) = some u) ∧ (∀ u ∈ us, u.oneCell' = true) ∧ ∀ j, j < n → ∃ B m d, us[j]? = some (.slice B m d) ∧ RB w B m d (lb Ls j) := by
  by_cases hn : n = 0
  · subst hn
    exact ⟨[], rfl, fun _ _ j u hu => by simp at hu, fun u hu => by simp at hu, fun j hj => absurd hj (Nat.not_lt_zero _)⟩
  · obtain ⟨ad, rfl, hc⟩ := h.cells (by omega)
    have pick : ∃ f : Nat → Value, ∀ j, j < n → w.cell? (ad.add j) = some (f j) ∧ ∃ B m d, f j = .slice B m d ∧ RB w B m d (lb Ls j) :=
      ⟨fun j => (w.cell? (ad.add j)).getD undef, fun j hj => by
        obtain ⟨B, m, d, h1, h2⟩ := hc j hj
        have e : (w.cell? (ad.add j)).getD undef = .slice B m d := by rw [h1]; rfl
        exact ⟨by show w.cell? (ad.add j) = some ((w.cell? (ad.add j)).getD undef); rw [e]; exact h1, B, m, d, e, h2⟩⟩
    obtain ⟨f, hf⟩ := pick
    have hget : ∀ j, j < n → ((List.range n).map f)[j]? = some (f j) := fun j hj => by simp [hj]
    refine ⟨(List.range n).map f, by simp, fun ad' e j u hu => ?_, fun u hu => ?_, fun j hj => ?_⟩
    · cases e
      have hj : j < n := by
        rcases Nat.lt_or_ge j n with h1 | h1
        · exact h1
        · rw [List.getElem?_eq_none (by simpa using h1)] at hu; cases hu
      rw [hget j hj] at hu
      injection hu with hu
      subst hu
      exact (hf j hj).1
    · simp only [List.mem_map, List.mem_range] at hu
      obtain ⟨j, hj, rfl⟩ := hu
      obtain ⟨_, B, m, d, h1, _⟩ := hf j hj
      rw [h1]
      simp [Value.oneCell']
    · obtain ⟨_, B, m, d, h1, h2⟩ := hf j hj
      exact ⟨B, m, d, by rw [hget j hj, h1], h2⟩
end Go.Proofs.Ytkndgpjamijbbaa

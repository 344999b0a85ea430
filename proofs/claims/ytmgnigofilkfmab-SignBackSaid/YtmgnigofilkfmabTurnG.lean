/-
  A row of byte slices of the call's own, each of its own block, all unlike. Plain theorems. law5.turned, walked.
-/
import Derived.Test.YtmgnigofilkfmabEncG
import Derived.Test.YtmgnigofilkfmabAppOne
import Derived.Test.YtmgnigofilkfmabCopy
import Derived.Test.YtmgnigofilkfmabSignG
import Derived.Test.YtmgnigofilkfmabOnceG
namespace Go.Proofs.Ytmgnigofilkfmab
set_option maxRecDepth 100000
open Go Go.RowKit
/-- blocks of b and beyond, below u; the elements' ones rise -/
def OBX (w : World) (b u : Nat) (A : Option Addr) (n c : Nat) (Ls : List (List UInt8)) : Prop :=
  ∃ (vs : List Value) (f d : Nat → Nat), w.ownsRow b 22 1 (.slice A n c) n vs ∧ Ls.length = n ∧ (∀ j, j < n → vs[j]? = some (.slice (some ⟨f j, 0, none⟩) 32 (d j)) ∧ OB w b (some ⟨f j, 0, none⟩) 32 (d j) (lb Ls j) ∧ f j < u) ∧ (∀ i j, i < j → j < n → f i < f j) ∧ ∀ k, blk A = some k → k < u
section
variable {w w' : World} {b u n c : Nat} {A : Option Addr} {Ls : List (List UInt8)}
theorem OBX.none_ (w : World) (b u : Nat) : OBX w b u none 0 0 [] := ⟨[], fun _ => 0, fun _ => 0, World.ownsRow_nil w _ _ _, rfl, fun j hj => absurd hj (Nat.not_lt_zero _), fun i j _ hj => absurd hj (Nat.not_lt_zero _), fun k hk => by cases hk⟩
theorem OBX.up (h : OBX w b u A n c Ls) {u' : Nat} (hu : u ≤ u') : OBX w b u' A n c Ls := by
  obtain ⟨vs, f, d, h1, h2, h3, h4, h5⟩ := h
  exact ⟨vs, f, d, h1, h2, fun j hj => ⟨(h3 j hj).1, (h3 j hj).2.1, Nat.lt_of_lt_of_le (h3 j hj).2.2 hu⟩, h4, fun k hk => Nat.lt_of_lt_of_le (h5 k hk) hu⟩
theorem OBX.len (h : OBX w b u A n c Ls) : Ls.length = n := by
  obtain ⟨vs, f, d, h1, h2, _⟩ := h
  exact h2
theorem OBX.lt (h : OBX w b u A n c Ls) {k : Nat} (hk : blk A = some k) : b ≤ k ∧ k < w.heap.size := by
  obtain ⟨vs, f, d, h1, _⟩ := h
  exact World.ownsRow.lt h1 k (by rw [ownBlock_slice]; exact hk)
theorem OBX.kept (h : OBX w b u A n c Ls) {row : Option Nat} (e : w.grownBy w' row) (h1' : ∀ k, row = some k → blk A ≠ some k) (h2' : ∀ (k g m d : Nat) (Y : List UInt8), row = some k → OB w b (some ⟨g, 0, none⟩) m d Y → g < u → g ≠ k) : OBX w' b u A n c Ls := by
  obtain ⟨vs, f, d, h1, h2, h3, h4, h5⟩ := h
  refine ⟨vs, f, d, World.ownsRow.kept h1 e ?_, h2, fun j hj => ⟨(h3 j hj).1, (h3 j hj).2.1.grown e ?_, (h3 j hj).2.2⟩, h4, h5⟩
  · cases row with
    | none => cases hb : Value.ownBlock (.slice A n c) <;> simp
    | some k => exact .inr (by rw [ownBlock_slice]; exact h1' k rfl)
  · cases row with
    | none => exact .inr (by intro e; cases e)
    | some k => exact .inr (fun e => by
        have e2 : some (f j) = some k := e
        injection e2 with e2
        exact h2' k (f j) _ _ _ rfl (h3 j hj).2.1 (h3 j hj).2.2 e2)
theorem OBX.ext (h : OBX w b u A n c Ls) (e : Ext w w') : OBX w' b u A n c Ls := h.kept (e.grownBy none) (fun k hk => by cases hk) (fun k _ _ _ _ hk => by cases hk)
theorem OBX.high (h : OBX w b u A n c Ls) {row : Option Nat} (e : w.grownBy w' row) (hr : ∀ k, row = some k → u ≤ k) : OBX w' b u A n c Ls := by
  have h5 : ∀ k, blk A = some k → k < u := by
    obtain ⟨vs, f, d, _, _, _, _, h5⟩ := h
    exact h5
  exact h.kept e (fun k hk e => by have := hr k hk; have := h5 k e; omega) (fun k g _ _ _ hk _ hg e => by have := hr k hk; omega)
theorem OBX.low (h : OBX w b u A n c Ls) {row : Option Nat} (e : w.grownBy w' row) (hr : ∀ k, row = some k → k < b) : OBX w' b u A n c Ls :=
  h.kept e (fun k hk e => by have := hr k hk; have := (h.lt e).1; omega) (fun k g _ _ _ hk ho _ e => by have := hr k hk; have := ho.ge; omega)
theorem OBX.far (h : OBX w b u A n c Ls) {row : Option Nat} (e : w.grownBy w' row) (hr : ∀ k, row = some k → Other w k) : OBX w' b u A n c Ls := by
  refine h.kept e (fun k hk e => ?_) (fun k g _ _ _ hk ho _ e => ho.other (hr k hk) (by rw [e]))
  obtain ⟨cs, t, fr, g1, g2, g3⟩ := hr k hk
  obtain ⟨vs, f, d, h1, _⟩ := h
  exact row_ne h1 g1 g2 (by rw [ownBlock_slice]; exact e)
theorem OBX.plain (h : OBX w b u A n c Ls) (hn : 0 < n) : ∃ g, A = some ⟨g, 0, none⟩ := by
  obtain ⟨vs, f, d, h1, _⟩ := h
  rcases h1.2 with ⟨_, h0⟩ | ⟨g, cap, cur, e, _⟩
  · omega
  · injection e with e1
    exact ⟨g, e1⟩
theorem OBX.row_lt {g : Nat} (h : OBX w b u (some ⟨g, 0, none⟩) n c Ls) : g < u := by
  obtain ⟨vs, f, d, _, _, _, _, h5⟩ := h
  exact h5 g rfl
theorem OBX.ne_blk {g k : Nat} {t : TypeId} {cs : Array Value} (h : OBX w b u (some ⟨g, 0, none⟩) n c Ls) (hb : Blk w k t cs) (ht : t ≠ 22) : k ≠ g := by
  obtain ⟨vs, f, d, h1, _⟩ := h
  intro e
  exact row_ne h1 hb ht (by rw [ownBlock_slice, e]; rfl)
theorem OB.ne_blk {g k : Nat} {t : TypeId} {cs : Array Value} {L : List UInt8} (h : OB w b (some ⟨g, 0, none⟩) n c L) (hb : Blk w k t cs) (ht : t ≠ 5) : k ≠ g := by
  intro e
  exact row_ne h hb ht (by rw [ownBlock_slice, e]; rfl)
theorem OBX.obc (h : OBX w b u A n c Ls) : OBC w b A n c Ls := by
  obtain ⟨vs, f, d, h1, h2, h3, h4, h5⟩ := h
  refine ⟨vs, h1, h2, fun j hj => ?_⟩
  obtain ⟨g1, g2, g3⟩ := h3 j hj
  refine ⟨_, _, _, g1, g2.rb, fun _ e => ?_⟩
  obtain ⟨cs, hcs⟩ := row_type g2 (k := f j) (by rw [ownBlock_slice]; rfl)
  exact row_ne h1 hcs (by decide) (by rw [ownBlock_slice]; exact e.symm)
/-- an element, opened to be turned -/
theorem OBX.at_ {g : Nat} (h : OBX w b u (some ⟨g, 0, none⟩) n c Ls) {i : Nat} (hi : i < n) :
    ∃ g' d', w.cell? ⟨g, i, none⟩ = some (.slice (some ⟨g', 0, none⟩) 32 d') ∧ OB w b (some ⟨g', 0, none⟩) 32 d' (lb Ls i) ∧ g' < u ∧ g' ≠ g ∧
      ∀ (q : Nat) (x : UInt8), OBX (w.setCell ⟨g', q, none⟩ (.int .u8 (u8i x))) b u (some ⟨g, 0, none⟩) n c (Ls.set i ((lb Ls i).set q x)) := by
  obtain ⟨vs, f, d, h1, h2, h3, h4, h5⟩ := h
  obtain ⟨g1, g2, g3⟩ := h3 i hi
  have hne : f i ≠ g := by
    intro e
    obtain ⟨cs, hcs⟩ := row_type g2 (k := f i) (by rw [ownBlock_slice]; rfl)
    exact row_ne h1 hcs (by decide) (by rw [ownBlock_slice, e]; rfl)
  have hc := World.ownsRow.cells h1 (g := g) (by rw [ownBlock_slice]; rfl) i _ g1
  rw [add_plain] at hc
  refine ⟨f i, d i, hc, g2, g3, hne, fun q x => ?_⟩
  have gs := grown_set w ⟨f i, q, none⟩ (.int .u8 (u8i x))
  refine ⟨vs, f, d, World.ownsRow.kept h1 gs (.inr (by rw [ownBlock_slice]; intro e; injection e with e; exact hne e.symm)), by rw [List.length_set]; exact h2, fun j hj => ?_, h4, h5⟩
  obtain ⟨k1, k2, k3⟩ := h3 j hj
  refine ⟨k1, ?_, k3⟩
  rw [lb_set (by omega)]
  by_cases hji : j = i
  · subst hji
    rw [if_pos rfl]
    exact (g2.set q x).1
  · rw [if_neg hji]
    refine k2.grown gs (.inr fun e => ?_)
    have e2 : f j = f i := by
      have e3 : some (f j) = some (f i) := e
      injection e3
    rcases Nat.lt_or_ge j i with h6 | h6
    · have := h4 j i h6 hi; omega
    · have := h4 i j (by omega) hj; omega
end
theorem appbx_law {ops : Array Oper} {rest : List Oper} {o : Oper} {a : Act} {Q : Exit → Act → World → Prop} {w : World} (hgd : o.guard = none) {s x : Operand} (ho : o.op = .call { callee := .builtin .append, args := #[s, x], argTypes := #[50, 50] })
    {A : Option Addr} {n c : Nat} (hs : a.eval s = .slice A n c) {ad : Addr} (hx : a.eval x = .slice (some ad) 1 1) {b u : Nat} {Ls : List (List UInt8)} {g d : Nat} {Y : List UInt8} (hcell : w.cell? (ad.add 0) = some (.slice (some ⟨g, 0, none⟩) 32 d))
    (hown : OBX w b u A n c Ls) (hB : OB w b (some ⟨g, 0, none⟩) 32 d Y) (hug : u ≤ g) (hbase : b ≤ w.heap.size) (hnk : n + 1 ≤ 1000000)
    (h : ∀ A' c' w', OBX w' b w'.heap.size A' (n + 1) c' (Ls ++ [Y]) → w.grownBy w' (blk A) → wpList Try.prog ops Q rest (a.put o.dst (.slice A' (n + 1) c')) w') : wpList Try.prog ops Q (o :: rest) a w := by
  obtain ⟨vs, f, dd, h1, h2, h3, h4, h5⟩ := hown
  have hgl := (hB.lt (k := g) rfl).2
  have hne : ∀ (g' m' d' : Nat) (Y' : List UInt8), OB w b (some ⟨g', 0, none⟩) m' d' Y' → some g' ≠ blk A := by
    intro g' m' d' Y' ho e
    obtain ⟨cs, hcs⟩ := row_type ho (k := g') (by rw [ownBlock_slice]; rfl)
    exact row_ne h1 hcs (by decide) (by rw [ownBlock_slice]; exact e.symm)
  refine appvs_law hgd ho hs hx (us := [.slice (some ⟨g, 0, none⟩) 32 d]) h1 rfl (fun j v hv => ?_) (by simp [Value.oneCell']) (by omega) hbase hnk fun A' c' w' r1 r2 => h A' c' w' ?_ r2
  · rcases j with _ | j
    · injection hv with hv
      subst hv
      exact hcell
    · cases hv
  · have hvl : vs.length = n := by have := h1.1; omega
    refine ⟨vs ++ [.slice (some ⟨g, 0, none⟩) 32 d], fun j => if j < n then f j else g, fun j => if j < n then dd j else d, r1, by rw [List.length_append, h2]; rfl, fun j hj => ?_, fun i j hij hj => ?_, fun k hk => (World.ownsRow.lt r1 k (by rw [ownBlock_slice]; exact hk)).2⟩
    · by_cases hjn : j < n
      · obtain ⟨k1, k2, k3⟩ := h3 j hjn
        have e : lb (Ls ++ [Y]) j = lb Ls j := by unfold lb; simp [List.getElem?_append_left (show j < Ls.length by omega)]
        have ef : (fun j => if j < n then f j else g) j = f j := if_pos hjn
        have ed : (fun j => if j < n then dd j else d) j = dd j := if_pos hjn
        rw [ef, ed, e]
        have k4 := k2.grown r2 (.inr (hne _ _ _ _ k2))
        exact ⟨by rw [List.getElem?_append_left (by omega)]; exact k1, k4, (k4.lt (k := f j) rfl).2⟩
      · obtain rfl : j = n := by omega
        have e : lb (Ls ++ [Y]) j = Y := by unfold lb; simp [← h2]
        have ef : (fun i => if i < j then f i else g) j = g := if_neg hjn
        have ed : (fun i => if i < j then dd i else d) j = d := if_neg hjn
        rw [ef, ed, e]
        have k4 := hB.grown r2 (.inr (hne _ _ _ _ hB))
        exact ⟨by rw [List.getElem?_append_right (by omega), hvl]; simp, k4, (k4.lt (k := g) rfl).2⟩
    · by_cases hjn : j < n
      · show (if i < n then f i else g) < (if j < n then f j else g)
        rw [if_pos (by omega), if_pos hjn]
        exact h4 i j hij hjn
      · show (if i < n then f i else g) < (if j < n then f j else g)
        rw [if_pos (show i < n by omega), if_neg hjn]
        exact Nat.lt_of_lt_of_le (h3 i (by omega)).2.2 hug
theorem OBC.store5 {w a : World} {base n c g z y : Nat} {E : Option Addr} {Ls : List (List UInt8)} {Y : List UInt8} (h : OBC w base (some ⟨g, 0, none⟩) n c Ls) (hE : RB w E z y Y) (hne : 0 < z → blk E ≠ some g) (i : Nat) (hi : i < n) :
    OBC (w.setCell ⟨g, i, none⟩ (.slice E z y)) base (some ⟨g, 0, none⟩) n c (Ls.set i Y) := by
  obtain ⟨vs, h1, h2, h3⟩ := h
  have hvl : vs.length = n := by have := h1.1; omega
  have s := World.ownsRow.stored h1 i (.slice E z y)
  refine ⟨vs.set i (.slice E z y), s.1, by simp [h2], fun j hj => ?_⟩
  rw [lb_set (by omega)]
  by_cases hji : j = i
  · subst hji
    rw [if_pos rfl]
    exact ⟨E, z, y, by simp [hvl, hj], hE.grown s.2 hne, hne⟩
  · rw [if_neg hji]
    obtain ⟨B, m, d, h4, h5, h6⟩ := h3 j hj
    exact ⟨B, m, d, by rw [List.getElem?_set_ne (Ne.symm hji)]; exact h4, h5.grown s.2 h6, h6⟩
end Go.Proofs.Ytmgnigofilkfmab
namespace Go.Proofs.Ytmgnigofilkfmab
set_option maxRecDepth 100000
open Go Go.RowKit
def MP.em (b : Nat) : MP Ext := ⟨fun u w => ∃ g, u = .slice (some ⟨g, 0, none⟩) 0 0 ∧ RB w (some ⟨g, 0, none⟩) 0 0 [], fun _ _ _ e ⟨g, h1, h2⟩ => ⟨g, h1, h2.ext e⟩⟩
theorem xor_some (x : Int) (t : UInt8) : ∃ z : Int, ∀ (P : Program) (w : World) (ty : TypeId), (binOp .xor ty (.int .i64 x) (.int .i64 (u8i t))).run P w = .ok (.int .i64 z) w :=
  ⟨_, fun P w ty => by simp only [binOp, Op.intBits, Sem.run_pure]; rfl⟩
theorem conv_u8_i64' {P : Program} {w : World} {s t : TypeId} (hs : P.underlying s = some (.int .u8)) (ht : P.underlying t = some (.int .i64)) (x : UInt8) : (convert s t (.int .u8 (u8i x))).run P w = .ok (.int .i64 (u8i x)) w := by
  have h := x.toNat_lt
  have e : IntKind.i64.wrap (u8i x) = u8i x := by unfold u8i; exact i64_wrap_id (by omega) (by omega)
  simp [convert, run_underlying hs, run_underlying ht, Conv.intToInt, e]
theorem Runs.make32 {o : Oper} {ρ : Operand → Value} {w : World} {G : Value → World → Prop} {x y : Operand} (ho : o.op = .makeSlice 22 x y) (hx : ρ x = .int .i64 ((32 : Nat) : Int)) (hy : ρ y = .int .i64 ((32 : Nat) : Int))
    (h : ∀ w', OB w' w.heap.size (some ⟨w.heap.size, 0, none⟩) 32 32 (List.replicate 32 0) → Ext w w' → G (.slice (some ⟨w.heap.size, 0, none⟩) 32 32) w') : Runs Try.prog o ρ w G := by
  obtain ⟨i0, hi0, hz0, hz1, hz2⟩ := info_parts info_u8
  obtain ⟨w', hr, h1, h2⟩ := run_make_full (P := Try.prog) w w.heap.size 22 5 i0 (.int .u8 0) 1 Try.underlying22 hi0 hz0 hz1 .i64 .i64 32 (by rw [hz2]; omega) (big_maxLen (by omega)) (Nat.le_refl _)
  refine Runs.of_run (r := .slice (some ⟨w.heap.size, 0, none⟩) 32 32) (w' := w') ?_ (h w' ?_ (Ext.grown h2))
  · unfold execOp
    simp only [ho, hx, hy, Sem.run_bind, hr, Result.andThen_ok, Sem.run_pure]
  · unfold OB
    have e : bv (List.replicate 32 0) = (madeCells (Value.int .u8 0).cells (32 * 1)).toList := by
      rw [Nat.mul_one, show (Value.int .u8 0).cells = #[.int .u8 0] from rfl, toList_madeCells_one]
      unfold bv
      rw [List.map_replicate]
      rfl
    rw [e]
    exact h1
theorem take_snoc (Ls : List (List UInt8)) {k : Nat} (h : k < Ls.length) : Ls.take (k + 1) = Ls.take k ++ [lb Ls k] := by
  rw [List.take_succ_eq_append_getElem h]
  simp [lb, h]
def TurnI (w1 : World) (x : Int) (Ps : List (List UInt8)) (i : Value) (wr : World) : Prop :=
  ∃ (k c : Nat) (A : Option Addr), k ≤ 64 ∧ i = .int .i64 k ∧ OBX wr w1.heap.size wr.heap.size A k c (Ps.take k) ∧ Blk wr w1.heap.size 52 #[.int .i64 x, .slice A k c, .slice none 0 0] ∧ Ext w1 wr
def TurnJ (w1 w2 : World) (x : Int) (A : Option Addr) (c : Nat) (Ps Qs : List (List UInt8)) (i : Value) (wr : World) : Prop :=
  ∃ (k d : Nat) (C : Option Addr), k ≤ 4 ∧ i = .int .i64 k ∧ OBX wr w1.heap.size w2.heap.size A 64 c Ps ∧ OBX wr w2.heap.size wr.heap.size C k d (Qs.take k) ∧ Blk wr w1.heap.size 52 #[.int .i64 x, .slice A 64 c, .slice C k d] ∧ Ext w1 wr ∧ w2.heap.size ≤ wr.heap.size
def TurnPost (w : World) (x how : Int) (i : Nat) (t : UInt8) (Ps Qs : List (List UInt8)) (e : Ending) (w' : World) : Prop :=
  ∃ x' P' n c Q' m d Ps' Qs', e = .returned (.agg #[.int .i64 x', .slice P' n c, .slice Q' m d]) ∧ RBB w' P' n c Ps' ∧ RBB w' Q' m d Qs' ∧ (how = 1 → x' = x ∧ Qs' = Qs ∧ Ps' = Ps.set i ((lb Ps i).set 0 (ub (lb Ps i) 0 ^^^ t))) ∧ Ext w w'
theorem TurnPost.mk {w : World} {x how : Int} {i : Nat} {t : UInt8} {Ps Qs : List (List UInt8)} {e : Ending} {w' : World} (h : ∃ x' P' n c Q' m d Ps' Qs', e = .returned (.agg #[.int .i64 x', .slice P' n c, .slice Q' m d]) ∧ RBB w' P' n c Ps' ∧ RBB w' Q' m d Qs' ∧ (how = 1 → x' = x ∧ Qs' = Qs ∧ Ps' = Ps.set i ((lb Ps i).set 0 (ub (lb Ps i) 0 ^^^ t))) ∧ Ext w w') : TurnPost w x how i t Ps Qs e w' := h
set_option maxHeartbeats 16000000 in
theorem turned5_any (x at' how : Int) (P Q : Option Addr) (cp cq : Nat) (t : UInt8) (Ps Qs : List (List UInt8)) (w : World) (hp : RBB w P 64 cp Ps) (hq : RBB w Q 4 cq Qs) (hP32 : ∀ i, i < 64 → (lb Ps i).length = 32) (hQ32 : ∀ i, i < 4 → (lb Qs i).length = 32)
    (ha0 : -9223372036854775808 ≤ at') (ha1 : at' ≤ 9223372036854775807) (hh : how = 0 ∨ how = 1 ∨ how = 2 ∨ how = 3 ∨ how = 4 ∨ how = 5 ∨ how = 6 ∨ how = 7 ∨ how = 8) :
    Calls Try.prog 41 #[.agg #[.int .i64 x, .slice P 64 cp, .slice Q 4 cq], .int .i64 how, .int .i64 at', .int .u8 (u8i t)] w fun e w' => TurnPost w x how (within at' 0 63).toNat t Ps Qs e w' := by
  obtain ⟨i, hi⟩ : ∃ i : Nat, within at' 0 63 = i := ⟨_, (Int.toNat_of_nonneg (within_in at' 0 63 (by omega)).1).symm⟩
  obtain ⟨j, hj⟩ : ∃ j : Nat, within at' 0 3 = j := ⟨_, (Int.toNat_of_nonneg (within_in at' 0 3 (by omega)).1).symm⟩
  have hi63 : i < 64 := by have := (within_in at' 0 63 (by omega)).2; omega
  have hj3 : j < 4 := by have := (within_in at' 0 3 (by omega)).2; omega
  have hw1 := fun w' => within_any at' 0 63 w' ha0 ha1 (by omega) (by omega) (by omega)
  have hw2 := fun w' => within_any at' 0 3 w' ha0 ha1 (by omega) (by omega) (by omega)
  rw [hi] at hw1
  rw [hj] at hw2
  have Hw1 := Lib.hid hw1
  have Hw2 := Lib.hid hw2
  have ei : (within at' 0 63).toNat = i := by rw [hi]; rfl
  rw [ei]
  have HP32 := Lib.hid hP32
  have HQ32 := Lib.hid hQ32
  have HPl := Lib.hid hp.len
  have HQl := Lib.hid hq.len
  have hcap1 := hp.room
  have hcap2 := hq.room
  clear hw1 hw2 hi hj ei hP32 hQ32
  obtain ⟨adP, rfl, hcP⟩ := hp.cells (by omega)
  obtain ⟨adQ, rfl, hcQ⟩ := hq.cells (by omega)
  have hE1 := Ext.new w (.cells #[.int .i64 x, .slice (some adP) 64 cp, .slice (some adQ) 4 cq] 52)
  have hB1 := Blk.new w 52 #[.int .i64 x, .slice (some adP) 64 cp, .slice (some adQ) 4 cq]
  obtain ⟨wa, hwa⟩ : ∃ wa, wa = w.alloc (.cells #[.int .i64 x, .slice (some adP) 64 cp, .slice (some adQ) 4 cq] 52) := ⟨_, rfl⟩
  rw [← hwa] at hE1 hB1
  have hE2 := Ext.new wa (.cells #[.int .i64 0, .slice none 0 0, .slice none 0 0] 52)
  have hB2 := Blk.new wa 52 #[.int .i64 0, .slice none 0 0, .slice none 0 0]
  have hsa : wa.heap.size = w.heap.size + 1 := by rw [hwa]; exact World.size_alloc _ _
  have hB1 := hB1.ext hE2
  have hE12 := hE1.trans hE2
  rw [hsa] at hB2
  obtain ⟨w1, hw1⟩ : ∃ w1, w1 = wa.alloc (.cells #[.int .i64 0, .slice none 0 0, .slice none 0 0] 52) := ⟨_, rfl⟩
  rw [← hw1] at hE12 hB1 hB2
  have hs1 : w1.heap.size = w.heap.size + 2 := by rw [hw1, World.size_alloc, hsa]
  have hE3 := Ext.new w1 (.cells #[.int .i64 x, .slice none 0 0, .slice none 0 0] 52)
  have hB3 := Blk.new w1 52 #[.int .i64 x, .slice none 0 0, .slice none 0 0]
  have y0 := hB1.cell (i := 0) (v := .int .i64 x) rfl
  rw [hw1, hwa] at y0
  clear hE1 hE2
  go_enter Try.func41, Try.ntmps41
  go_wp2_with fail
  rw [← hwa, ← hw1]
  rw [← hs1]
  have Hs1 := Lib.hid hs1
  clear hwa hw1 y0 hsa hs1
  go_loopw [10] (fun i wr => TurnI w1 x Ps i wr) (fun i _ => 64 - (intOf i).toNat)
  case atStart => exact ⟨0, 0, none, by omega, rfl, OBX.none_ _ _ _, hB3, hE3⟩
  case round =>
    clear hB3 hE3
    obtain ⟨k, c, A, hk, rfl, own, hB, hEr⟩ := hrel
    have hEw := hE12.trans hEr
    have b4 := hB1.ext hEr
    have u4 : wr.cell? ⟨w.heap.size, 1, none⟩ = some (.slice (some adP) 64 cp) := b4.cell (i := 1) rfl
    have hlt9 := hB.lt
    by_cases hlt : k < 64
    · have hki : (k : Int) < 64 := by omega
      have u9 : wr.cell? ⟨w1.heap.size, 1, none⟩ = some (.slice A k c) := hB.cell (i := 1) rfl
      obtain ⟨E, z, y, hce, hrE⟩ := hcP k hlt
      obtain rfl : z = 32 := hrE.len.symm.trans (HP32.out k hlt)
      have hce := hEw.cell hce
      have hrE := hrE.ext hEw
      have Htk := Lib.hid (take_snoc Ps (k := k) (by rw [HPl.out]; exact hlt))
      have Hl := Lib.hid hrE.len
      obtain ⟨Y, hY⟩ : ∃ Y, Y = lb Ps k := ⟨_, rfl⟩
      rw [← hY] at hrE Htk Hl
      clear hY
      go_upto_region 5 with (fail)
      refine par_ext (n := 10) (by kernel_rfl) [.is (.pointer (some ⟨w1.heap.size, 1, none⟩)), .is (.slice (A) (k) (c)), .em 0, .is (.pointer (some ⟨w.heap.size, 1, none⟩)), .is (.slice (some adP) (64) (cp)), .is (.int .i64 (((k : Nat) : Int))), .is (.pointer (some ((adP : Addr).add (k)))), .is (.slice (E) (32) (y)), .ob32 (wr.heap.size) (Y), .one32 (wr.heap.size) (Y)] rfl ⟨?_, ?_, ?_, ?_, ?_, ?_, ?_, ?_, ?_, ?_, trivial⟩ ?_
      · refine stepE rfl fun sdn sa sw sE sd sk => ?_
        have h9 : sa.eval (.tmp 9) = .pointer (some ⟨w1.heap.size, 0, none⟩) := sk.old 9 rfl
        refine Runs.of_run (r := .pointer (some ⟨w1.heap.size, 1, none⟩)) (w' := sw) ?_ ⟨Ext.refl _, rfl⟩
        unfold execOp
        simp only [h9]
        go_simp
      · refine stepE rfl fun sdn sa sw sE sd sk => ?_
        have h24 : sa.eval (.tmp 24) = .pointer (some ⟨w1.heap.size, 1, none⟩) := sk.fact 0 24 rfl (sd 0 rfl)
        exact Runs.load rfl h24 (run_load1 Try.underlying50 rfl (sE.cell u9)) ⟨Ext.refl _, rfl⟩
      · refine stepE rfl fun sdn sa sw sE sd sk => ?_
        exact Runs.lit0 rfl (fun w1 e1 o1 => ⟨e1, _, rfl, o1.rb⟩)
      · refine stepE rfl fun sdn sa sw sE sd sk => ?_
        have h4 : sa.eval (.tmp 4) = .pointer (some ⟨w.heap.size, 0, none⟩) := sk.old 4 rfl
        refine Runs.of_run (r := .pointer (some ⟨w.heap.size, 1, none⟩)) (w' := sw) ?_ ⟨Ext.refl _, rfl⟩
        unfold execOp
        simp only [h4]
        go_simp
      · refine stepE rfl fun sdn sa sw sE sd sk => ?_
        have h27 : sa.eval (.tmp 27) = .pointer (some ⟨w.heap.size, 1, none⟩) := sk.fact 3 27 rfl (sd 3 rfl)
        exact Runs.load rfl h27 (run_load1 Try.underlying50 rfl (sE.cell u4)) ⟨Ext.refl _, rfl⟩
      · refine stepE rfl fun sdn sa sw sE sd sk => ?_
        have h10 : sa.eval (.tmp 10) = .int .i64 (((k : Nat) : Int)) := sk.old 10 rfl
        exact Runs.move rfl h10 ⟨Ext.refl _, rfl⟩
      · refine stepE rfl fun sdn sa sw sE sd sk => ?_
        have h28 : sa.eval (.tmp 28) = .slice (some adP) (64) (cp) := sk.fact 4 28 rfl (sd 4 rfl)
        have h29 : sa.eval (.tmp 29) = .int .i64 (((k : Nat) : Int)) := sk.fact 5 29 rfl (sd 5 rfl)
        exact Runs.idx rfl h28 h29 (run_idx_sl1 Try.underlying50 infZZ_eq infZZ_size (k) (by omega) (by omega)) ⟨Ext.refl _, rfl⟩
      · refine stepE rfl fun sdn sa sw sE sd sk => ?_
        have h30 : sa.eval (.tmp 30) = .pointer (some ((adP : Addr).add (k))) := sk.fact 6 30 rfl (sd 6 rfl)
        exact Runs.load rfl h30 (run_load1 Try.underlying22 rfl (sE.cell hce)) ⟨Ext.refl _, rfl⟩
      · refine stepE rfl fun sdn sa sw sE sd sk => ?_
        obtain ⟨g26, h26, r26⟩ := sk.fact 2 26 rfl (sd 2 rfl)
        have h31 : sa.eval (.tmp 31) = .slice (E) (32) (y) := sk.fact 7 31 rfl (sd 7 rfl)
        refine Runs.appFull rfl h26 h31 r26 (hrE.ext sE) (by omega) (by omega) (fun A' c' w1 o1 e1 => ?_); obtain ⟨ad', rfl, _⟩ := o1.rb.cells (by omega); obtain ⟨g', rfl⟩ := o1.plain; exact ⟨e1, g', c', rfl, (show OB w1 sw.heap.size _ 32 c' (Y) by simpa using o1).base sE.size⟩
      · refine stepE rfl fun sdn sa sw sE sd sk => ?_
        obtain ⟨g32, d32, h32, o32⟩ := sk.fact 8 32 rfl (sd 8 rfl)
        exact Runs.one1 rfl h32 (fun w1 e1 b1 => ⟨e1, _, _, _, rfl, b1, o32.ext e1⟩)
      intro vals W1 hE hv
      have e0 : vals 0 = .pointer (some ⟨w1.heap.size, 1, none⟩) := hv 0 (by omega) 24 rfl
      have e1 : vals 1 = .slice (A) (k) (c) := hv 1 (by omega) 25 rfl
      obtain ⟨g26, e2, r26⟩ := hv 2 (by omega) 26 rfl
      have e3 : vals 3 = .pointer (some ⟨w.heap.size, 1, none⟩) := hv 3 (by omega) 27 rfl
      have e4 : vals 4 = .slice (some adP) (64) (cp) := hv 4 (by omega) 28 rfl
      have e5 : vals 5 = .int .i64 (((k : Nat) : Int)) := hv 5 (by omega) 29 rfl
      have e6 : vals 6 = .pointer (some ((adP : Addr).add (k))) := hv 6 (by omega) 30 rfl
      have e7 : vals 7 = .slice (E) (32) (y) := hv 7 (by omega) 31 rfl
      obtain ⟨g32, d32, e8, o32⟩ := hv 8 (by omega) 32 rfl
      obtain ⟨x33, g33, d33, e9, hc33, o33⟩ := hv 9 (by omega) 33 rfl
      simp only [putAll, Act.put, List.take_succ_cons, List.take_zero, List.drop_succ_cons, List.drop_zero, List.drop_nil, List.take_nil, Nat.reduceAdd, List.setIfInBounds_toArray, List.set_cons_succ, List.set_cons_zero, e0, e1, e2, e3, e4, e5, e6, e7, e8, e9]
      clear hv e0 e1 e2 e3 e4 e5 e6 e7 e8 e9
      have hne9 : some w1.heap.size ≠ blk A := by
        intro e
        obtain ⟨vs, f, d, r1, _⟩ := own
        exact row_ne r1 hB (by decide) (by rw [ownBlock_slice]; exact e.symm)
      have hB5 := hB.ext hE
      have own5 := own.ext hE
      have hE5 := hEr.trans hE
      clear u9 u4 hce hrE b4
      go_wp2_with (refine appbx_law (b := w1.heap.size) (Y := Y) rfl rfl rfl rfl hc33 own5 (o33.base hEr.size) o33.ge hE5.size (by omega) ?_; intro A6 c6 w6 own6 g6; have hB6 := hB5.grown g6 hne9; have v6 := hB6.cell (i := 1) (v := .slice A k c) rfl; have f6 := hB6.frozen 1)
      have gs := grown_set w6 ⟨w1.heap.size, 1, none⟩ (.slice A6 (k + 1) c6)
      have own7 := own6.far gs (fun q hq => by cases hq; exact hB6.other (by decide) (by decide))
      have hsz : (w6.setCell ⟨w1.heap.size, 1, none⟩ (.slice A6 (k + 1) c6)).heap.size = w6.heap.size := by simp [World.setCell]
      rw [← hsz] at own7
      have hB7 := hB6.set 1 (.slice A6 (k + 1) c6)
      have hE7 := (hE5.then_grown g6 (fun b hb => (own5.lt hb).1)).set (p := ⟨w1.heap.size, 1, none⟩) (Nat.le_refl _) (.slice A6 (k + 1) c6)
      clear own6 g6 hB6 v6 f6 gs hsz hB5 own5
      go_roundw
      case rel => exact ⟨k + 1, c6, A6, by omega, by go_num, by rw [Htk.out]; exact own7, hB7, hE7⟩
      case measure => simp [intOf]; omega
    · obtain rfl : k = 64 := by omega
      have htk : Ps.take 64 = Ps := List.take_of_length_le (by rw [HPl.out]; omega)
      rw [htk] at own
      clear htk
      go_wp2_with fail
      obtain ⟨w2, rfl⟩ : ∃ w2, w2 = wr := ⟨_, rfl⟩
      have e64 : ((64 : Nat) : Int) = 64 := rfl
      simp only [e64]
      clear e64
      go_loopw [11] (fun i wr => TurnJ w1 w2 x A c Ps Qs i wr) (fun i _ => 4 - (intOf i).toNat)
      case atStart => exact ⟨0, 0, none, by omega, rfl, own, OBX.none_ _ _ _, hB, hEr, Nat.le_refl _⟩
      case round =>
        clear own hB hEw b4 u4
        obtain ⟨k, d, C, hk', rfl, ownP, own, hB, hEw2, hsz2⟩ := hrel
        have hEw := hE12.trans hEw2
        have b4 := hB1.ext hEw2
        have u4 : wr.cell? ⟨w.heap.size, 2, none⟩ = some (.slice (some adQ) 4 cq) := b4.cell (i := 2) rfl
        by_cases hlt2 : k < 4
        · have hki : (k : Int) < 4 := by omega
          have u9 : wr.cell? ⟨w1.heap.size, 2, none⟩ = some (.slice C k d) := hB.cell (i := 2) rfl
          obtain ⟨E, z, y, hce, hrE⟩ := hcQ k hlt2
          obtain rfl : z = 32 := hrE.len.symm.trans (HQ32.out k hlt2)
          have hce := hEw.cell hce
          have hrE := hrE.ext hEw
          have Htk := Lib.hid (take_snoc Qs (k := k) (by rw [HQl.out]; exact hlt2))
          have Hl := Lib.hid hrE.len
          obtain ⟨Y, hY⟩ : ∃ Y, Y = lb Qs k := ⟨_, rfl⟩
          rw [← hY] at hrE Htk Hl
          clear hY
          go_upto_region 9 with (fail)
          refine par_ext (n := 10) (by kernel_rfl) [.is (.pointer (some ⟨w1.heap.size, 2, none⟩)), .is (.slice (C) (k) (d)), .em 0, .is (.pointer (some ⟨w.heap.size, 2, none⟩)), .is (.slice (some adQ) (4) (cq)), .is (.int .i64 (((k : Nat) : Int))), .is (.pointer (some ((adQ : Addr).add (k)))), .is (.slice (E) (32) (y)), .ob32 (wr.heap.size) (Y), .one32 (wr.heap.size) (Y)] rfl ⟨?_, ?_, ?_, ?_, ?_, ?_, ?_, ?_, ?_, ?_, trivial⟩ ?_
          · refine stepE rfl fun sdn sa sw sE sd sk => ?_
            have h9 : sa.eval (.tmp 9) = .pointer (some ⟨w1.heap.size, 0, none⟩) := sk.old 9 rfl
            refine Runs.of_run (r := .pointer (some ⟨w1.heap.size, 2, none⟩)) (w' := sw) ?_ ⟨Ext.refl _, rfl⟩
            unfold execOp
            simp only [h9]
            go_simp
          · refine stepE rfl fun sdn sa sw sE sd sk => ?_
            have h43 : sa.eval (.tmp 43) = .pointer (some ⟨w1.heap.size, 2, none⟩) := sk.fact 0 43 rfl (sd 0 rfl)
            exact Runs.load rfl h43 (run_load1 Try.underlying50 rfl (sE.cell u9)) ⟨Ext.refl _, rfl⟩
          · refine stepE rfl fun sdn sa sw sE sd sk => ?_
            exact Runs.lit0 rfl (fun w1 e1 o1 => ⟨e1, _, rfl, o1.rb⟩)
          · refine stepE rfl fun sdn sa sw sE sd sk => ?_
            have h4 : sa.eval (.tmp 4) = .pointer (some ⟨w.heap.size, 0, none⟩) := sk.old 4 rfl
            refine Runs.of_run (r := .pointer (some ⟨w.heap.size, 2, none⟩)) (w' := sw) ?_ ⟨Ext.refl _, rfl⟩
            unfold execOp
            simp only [h4]
            go_simp
          · refine stepE rfl fun sdn sa sw sE sd sk => ?_
            have h46 : sa.eval (.tmp 46) = .pointer (some ⟨w.heap.size, 2, none⟩) := sk.fact 3 46 rfl (sd 3 rfl)
            exact Runs.load rfl h46 (run_load1 Try.underlying50 rfl (sE.cell u4)) ⟨Ext.refl _, rfl⟩
          · refine stepE rfl fun sdn sa sw sE sd sk => ?_
            have h11 : sa.eval (.tmp 11) = .int .i64 (((k : Nat) : Int)) := sk.old 11 rfl
            exact Runs.move rfl h11 ⟨Ext.refl _, rfl⟩
          · refine stepE rfl fun sdn sa sw sE sd sk => ?_
            have h47 : sa.eval (.tmp 47) = .slice (some adQ) (4) (cq) := sk.fact 4 47 rfl (sd 4 rfl)
            have h48 : sa.eval (.tmp 48) = .int .i64 (((k : Nat) : Int)) := sk.fact 5 48 rfl (sd 5 rfl)
            exact Runs.idx rfl h47 h48 (run_idx_sl1 Try.underlying50 infZZ_eq infZZ_size (k) (by omega) (by omega)) ⟨Ext.refl _, rfl⟩
          · refine stepE rfl fun sdn sa sw sE sd sk => ?_
            have h49 : sa.eval (.tmp 49) = .pointer (some ((adQ : Addr).add (k))) := sk.fact 6 49 rfl (sd 6 rfl)
            exact Runs.load rfl h49 (run_load1 Try.underlying22 rfl (sE.cell hce)) ⟨Ext.refl _, rfl⟩
          · refine stepE rfl fun sdn sa sw sE sd sk => ?_
            obtain ⟨g45, h45, r45⟩ := sk.fact 2 45 rfl (sd 2 rfl)
            have h50 : sa.eval (.tmp 50) = .slice (E) (32) (y) := sk.fact 7 50 rfl (sd 7 rfl)
            refine Runs.appFull rfl h45 h50 r45 (hrE.ext sE) (by omega) (by omega) (fun A' c' w1 o1 e1 => ?_); obtain ⟨ad', rfl, _⟩ := o1.rb.cells (by omega); obtain ⟨g', rfl⟩ := o1.plain; exact ⟨e1, g', c', rfl, (show OB w1 sw.heap.size _ 32 c' (Y) by simpa using o1).base sE.size⟩
          · refine stepE rfl fun sdn sa sw sE sd sk => ?_
            obtain ⟨g51, d51, h51, o51⟩ := sk.fact 8 51 rfl (sd 8 rfl)
            exact Runs.one1 rfl h51 (fun w1 e1 b1 => ⟨e1, _, _, _, rfl, b1, o51.ext e1⟩)
          intro vals W1 hE hv
          have e0 : vals 0 = .pointer (some ⟨w1.heap.size, 2, none⟩) := hv 0 (by omega) 43 rfl
          have e1 : vals 1 = .slice (C) (k) (d) := hv 1 (by omega) 44 rfl
          obtain ⟨g45, e2, r45⟩ := hv 2 (by omega) 45 rfl
          have e3 : vals 3 = .pointer (some ⟨w.heap.size, 2, none⟩) := hv 3 (by omega) 46 rfl
          have e4 : vals 4 = .slice (some adQ) (4) (cq) := hv 4 (by omega) 47 rfl
          have e5 : vals 5 = .int .i64 (((k : Nat) : Int)) := hv 5 (by omega) 48 rfl
          have e6 : vals 6 = .pointer (some ((adQ : Addr).add (k))) := hv 6 (by omega) 49 rfl
          have e7 : vals 7 = .slice (E) (32) (y) := hv 7 (by omega) 50 rfl
          obtain ⟨g51, d51, e8, o51⟩ := hv 8 (by omega) 51 rfl
          obtain ⟨x52, g52, d52, e9, hc52, o52⟩ := hv 9 (by omega) 52 rfl
          simp only [putAll, Act.put, List.take_succ_cons, List.take_zero, List.drop_succ_cons, List.drop_zero, List.drop_nil, List.take_nil, Nat.reduceAdd, List.setIfInBounds_toArray, List.set_cons_succ, List.set_cons_zero, e0, e1, e2, e3, e4, e5, e6, e7, e8, e9]
          clear hv e0 e1 e2 e3 e4 e5 e6 e7 e8 e9
          have hne9 : some w1.heap.size ≠ blk C := by
            intro e
            obtain ⟨vs, f, d, r1, _⟩ := own
            exact row_ne r1 hB (by decide) (by rw [ownBlock_slice]; exact e.symm)
          have hB5 := hB.ext hE
          have own5 := own.ext hE
          have ownP5 := ownP.ext hE
          have hE5 := hEw2.trans hE
          have hsz5 : w2.heap.size ≤ W1.heap.size := Nat.le_trans hsz2 hE.size
          clear u9 u4 hce hrE b4
          go_wp2_with (refine appbx_law (b := w2.heap.size) (Y := Y) rfl rfl rfl rfl hc52 own5 (o52.base hsz2) o52.ge hsz5 (by omega) ?_; intro A6 c6 w6 own6 g6; have hB6 := hB5.grown g6 hne9; have v6 := hB6.cell (i := 2) (v := .slice C k d) rfl; have f6 := hB6.frozen 2)
          have ownP6 := ownP5.high g6 (fun b hb => (own5.lt hb).1)
          have gs := grown_set w6 ⟨w1.heap.size, 2, none⟩ (.slice A6 (k + 1) c6)
          have own7 := own6.far gs (fun q hq => by cases hq; exact hB6.other (by decide) (by decide))
          have ownP7 := ownP6.far gs (fun q hq => by cases hq; exact hB6.other (by decide) (by decide))
          have hsz : (w6.setCell ⟨w1.heap.size, 2, none⟩ (.slice A6 (k + 1) c6)).heap.size = w6.heap.size := by simp [World.setCell]
          rw [← hsz] at own7
          have hB7 := hB6.set 2 (.slice A6 (k + 1) c6)
          have hE7 := (hE5.then_grown g6 (fun b hb => by have := (own5.lt hb).1; have := hEr.size; omega)).set (p := ⟨w1.heap.size, 2, none⟩) (Nat.le_refl _) (.slice A6 (k + 1) c6)
          have hsz7 : w2.heap.size ≤ (w6.setCell ⟨w1.heap.size, 2, none⟩ (.slice A6 (k + 1) c6)).heap.size := by rw [hsz]; exact Nat.le_trans hsz5 g6.size
          clear own6 g6 hB6 v6 f6 gs hsz hB5 own5 ownP5 ownP6
          go_roundw
          case rel => exact ⟨k + 1, c6, A6, by omega, by go_num, ownP7, by rw [Htk.out]; exact own7, hB7, hE7, hsz7⟩
          case measure => simp [intOf]; omega
        · obtain rfl : k = 4 := by omega
          have htk : Qs.take 4 = Qs := List.take_of_length_le (by rw [HQl.out]; omega)
          rw [htk] at own
          clear htk b4 hcP hcQ hp hq
          obtain ⟨gp, rfl⟩ := ownP.plain (by omega)
          obtain ⟨gq, rfl⟩ := own.plain (by omega)
          have hB8 := hB2.ext hEw2
          have v1 : wr.cell? ⟨w1.heap.size, 1, none⟩ = some (.slice (some ⟨gp, 0, none⟩) 64 c) := hB.cell (i := 1) rfl
          have v2 : wr.cell? ⟨w1.heap.size, 2, none⟩ = some (.slice (some ⟨gq, 0, none⟩) 4 d) := hB.cell (i := 2) rfl
          go_upto_region 12 with (fail)
          clear u4
          refine par_ext (n := 12) (by kernel_rfl) [.is (.int .i64 (at')), .is (.pointer (some ⟨w1.heap.size, 1, none⟩)), .is (.slice (some ⟨gp, 0, none⟩) (64) (c)), .is (.int .i64 ((64 : Nat))), .is (.int .i64 ((63 : Int))), .is (.int .i64 (((i : Nat) : Int))), .is (.int .i64 (at')), .is (.pointer (some ⟨w1.heap.size, 2, none⟩)), .is (.slice (some ⟨gq, 0, none⟩) (4) (d)), .is (.int .i64 ((4 : Nat))), .is (.int .i64 ((3 : Int))), .is (.int .i64 (((j : Nat) : Int)))] rfl ⟨?_, ?_, ?_, ?_, ?_, ?_, ?_, ?_, ?_, ?_, ?_, ?_, trivial⟩ ?_
          · refine stepE rfl fun sdn sa sw sE sd sk => ?_
            have h2 : sa.eval (.tmp 2) = .int .i64 (at') := sk.old 2 rfl
            exact Runs.move rfl h2 ⟨Ext.refl _, rfl⟩
          · refine stepE rfl fun sdn sa sw sE sd sk => ?_
            have h9 : sa.eval (.tmp 9) = .pointer (some ⟨w1.heap.size, 0, none⟩) := sk.old 9 rfl
            refine Runs.of_run (r := .pointer (some ⟨w1.heap.size, 1, none⟩)) (w' := sw) ?_ ⟨Ext.refl _, rfl⟩
            unfold execOp
            simp only [h9]
            go_simp
          · refine stepE rfl fun sdn sa sw sE sd sk => ?_
            have h67 : sa.eval (.tmp 67) = .pointer (some ⟨w1.heap.size, 1, none⟩) := sk.fact 1 67 rfl (sd 1 rfl)
            exact Runs.load rfl h67 (run_load1 Try.underlying50 rfl (sE.cell v1)) ⟨Ext.refl _, rfl⟩
          · refine stepE rfl fun sdn sa sw sE sd sk => ?_
            have h68 : sa.eval (.tmp 68) = .slice (some ⟨gp, 0, none⟩) (64) (c) := sk.fact 2 68 rfl (sd 2 rfl)
            exact Runs.len Try.underlying50 rfl h68 ⟨Ext.refl _, rfl⟩
          · refine stepE rfl fun sdn sa sw sE sd sk => ?_
            have h69 : sa.eval (.tmp 69) = .int .i64 ((64 : Nat)) := sk.fact 3 69 rfl (sd 3 rfl)
            exact Runs.bin rfl h69 rfl (eqGuard_bin rfl) (bin_sub64 _ _ _ (by omega) (by omega)) ⟨Ext.refl _, rfl⟩
          · refine stepE rfl fun sdn sa sw sE sd sk => ?_
            have h66 : sa.eval (.tmp 66) = .int .i64 (at') := sk.fact 0 66 rfl (sd 0 rfl)
            have h70 : sa.eval (.tmp 70) = .int .i64 ((63 : Int)) := sk.fact 4 70 rfl (sd 4 rfl)
            refine Runs.call (f := 16) (vs := [.int .i64 (at'), .int .i64 ((0 : Int)), .int .i64 ((63 : Int))]) rfl rfl rfl (by simp only [List.map_toArray, List.map_cons, List.map_nil, h66, h70] <;> rfl) (ent16 _ _) ((Hw1.out sw).mono ?_); rintro e w' ⟨rfl, rfl⟩; exact ⟨_, rfl, Ext.refl _, rfl⟩
          · refine stepE rfl fun sdn sa sw sE sd sk => ?_
            have h2 : sa.eval (.tmp 2) = .int .i64 (at') := sk.old 2 rfl
            exact Runs.move rfl h2 ⟨Ext.refl _, rfl⟩
          · refine stepE rfl fun sdn sa sw sE sd sk => ?_
            have h9 : sa.eval (.tmp 9) = .pointer (some ⟨w1.heap.size, 0, none⟩) := sk.old 9 rfl
            refine Runs.of_run (r := .pointer (some ⟨w1.heap.size, 2, none⟩)) (w' := sw) ?_ ⟨Ext.refl _, rfl⟩
            unfold execOp
            simp only [h9]
            go_simp
          · refine stepE rfl fun sdn sa sw sE sd sk => ?_
            have h73 : sa.eval (.tmp 73) = .pointer (some ⟨w1.heap.size, 2, none⟩) := sk.fact 7 73 rfl (sd 7 rfl)
            exact Runs.load rfl h73 (run_load1 Try.underlying50 rfl (sE.cell v2)) ⟨Ext.refl _, rfl⟩
          · refine stepE rfl fun sdn sa sw sE sd sk => ?_
            have h74 : sa.eval (.tmp 74) = .slice (some ⟨gq, 0, none⟩) (4) (d) := sk.fact 8 74 rfl (sd 8 rfl)
            exact Runs.len Try.underlying50 rfl h74 ⟨Ext.refl _, rfl⟩
          · refine stepE rfl fun sdn sa sw sE sd sk => ?_
            have h75 : sa.eval (.tmp 75) = .int .i64 ((4 : Nat)) := sk.fact 9 75 rfl (sd 9 rfl)
            exact Runs.bin rfl h75 rfl (eqGuard_bin rfl) (bin_sub64 _ _ _ (by omega) (by omega)) ⟨Ext.refl _, rfl⟩
          · refine stepE rfl fun sdn sa sw sE sd sk => ?_
            have h72 : sa.eval (.tmp 72) = .int .i64 (at') := sk.fact 6 72 rfl (sd 6 rfl)
            have h76 : sa.eval (.tmp 76) = .int .i64 ((3 : Int)) := sk.fact 10 76 rfl (sd 10 rfl)
            refine Runs.call (f := 16) (vs := [.int .i64 (at'), .int .i64 ((0 : Int)), .int .i64 ((3 : Int))]) rfl rfl rfl (by simp only [List.map_toArray, List.map_cons, List.map_nil, h72, h76] <;> rfl) (ent16 _ _) ((Hw2.out sw).mono ?_); rintro e w' ⟨rfl, rfl⟩; exact ⟨_, rfl, Ext.refl _, rfl⟩
          intro vals w12 hE12' hv12'
          have e0 : vals 0 = .int .i64 (at') := hv12' 0 (by omega) 66 rfl
          have e1 : vals 1 = .pointer (some ⟨w1.heap.size, 1, none⟩) := hv12' 1 (by omega) 67 rfl
          have e2 : vals 2 = .slice (some ⟨gp, 0, none⟩) (64) (c) := hv12' 2 (by omega) 68 rfl
          have e3 : vals 3 = .int .i64 ((64 : Nat)) := hv12' 3 (by omega) 69 rfl
          have e4 : vals 4 = .int .i64 ((63 : Int)) := hv12' 4 (by omega) 70 rfl
          have e5 : vals 5 = .int .i64 (((i : Nat) : Int)) := hv12' 5 (by omega) 71 rfl
          have e6 : vals 6 = .int .i64 (at') := hv12' 6 (by omega) 72 rfl
          have e7 : vals 7 = .pointer (some ⟨w1.heap.size, 2, none⟩) := hv12' 7 (by omega) 73 rfl
          have e8 : vals 8 = .slice (some ⟨gq, 0, none⟩) (4) (d) := hv12' 8 (by omega) 74 rfl
          have e9 : vals 9 = .int .i64 ((4 : Nat)) := hv12' 9 (by omega) 75 rfl
          have e10 : vals 10 = .int .i64 ((3 : Int)) := hv12' 10 (by omega) 76 rfl
          have e11 : vals 11 = .int .i64 (((j : Nat) : Int)) := hv12' 11 (by omega) 77 rfl
          simp only [putAll, Act.put, List.take_succ_cons, List.take_zero, List.drop_succ_cons, List.drop_zero, List.drop_nil, List.take_nil, Nat.reduceAdd, List.setIfInBounds_toArray, List.set_cons_succ, List.set_cons_zero, e0, e1, e2, e3, e4, e5, e6, e7, e8, e9, e10, e11]
          clear hv12' e0 e1 e2 e3 e4 e5 e6 e7 e8 e9 e10 e11
          have hB := hB.ext hE12'
          have hB8 := hB8.ext hE12'
          have ownP := ownP.ext hE12'
          have own := (own.ext hE12').up hE12'.size
          have hEw := hEw.trans hE12'
          have hEw2 := hEw2.trans hE12'
          have hsz2 := Nat.le_trans hsz2 hE12'.size
          have hb9 : w1.heap.size < w2.heap.size := hlt9
          have hcc := ownP.obc.rbb.room
          have hdd := own.obc.rbb.room
          clear v1 v2 hE12' hB1 hB2 hE12 hlt9 Hw1 Hw2
          rcases hh with rfl | rfl | rfl | rfl | rfl | rfl | rfl | rfl | rfl
          · have hBf := hB
            have hB8f := hB8
            have oP := ownP.obc
            have oQ := own.obc
            have hEf := hEw
            have z0 : (w12).cell? ⟨w1.heap.size, 0, none⟩ = some (.int .i64 x) := hBf.cell (i := 0) rfl
            have z1 : (w12).cell? ⟨w1.heap.size, 1, none⟩ = some (.slice (some ⟨gp, 0, none⟩) 64 c) := hBf.cell (i := 1) rfl
            have z2 : (w12).cell? ⟨w1.heap.size, 2, none⟩ = some (.slice (some ⟨gq, 0, none⟩) 4 d) := hBf.cell (i := 2) rfl
            have f0 := hB8f.frozen 0
            have x0 := hB8f.cell (i := 0) rfl
            have f1 := hB8f.frozen 1
            have x1 := hB8f.cell (i := 1) rfl
            have f2 := hB8f.frozen 2
            have x2 := hB8f.cell (i := 2) rfl
            go_wp2_with fail
            have g1 := fun (w' : World) (u : Value) (i : Nat) => grown_set w' ⟨w.heap.size + 1, i, none⟩ u
            have b1 := hB8f.set 0 (.int .i64 x)
            have b2 := b1.set 1 (.slice (some ⟨gp, 0, none⟩) 64 c)
            have b3 := b2.set 2 (.slice (some ⟨gq, 0, none⟩) 4 d)
            have oP3 := (((oP.far hB8f (by decide) (sig_no _ _ _ _ _ _ _) (g1 _ (.int .i64 x) 0)).far b1 (by decide) (sig_no _ _ _ _ _ _ _) (g1 _ (.slice (some ⟨gp, 0, none⟩) 64 c) 1)).far b2 (by decide) (sig_no _ _ _ _ _ _ _) (g1 _ (.slice (some ⟨gq, 0, none⟩) 4 d) 2))
            have oQ3 := (((oQ.far hB8f (by decide) (sig_no _ _ _ _ _ _ _) (g1 _ (.int .i64 x) 0)).far b1 (by decide) (sig_no _ _ _ _ _ _ _) (g1 _ (.slice (some ⟨gp, 0, none⟩) 64 c) 1)).far b2 (by decide) (sig_no _ _ _ _ _ _ _) (g1 _ (.slice (some ⟨gq, 0, none⟩) 4 d) 2))
            have hE3 := (((hEf.set (p := ⟨w.heap.size + 1, 0, none⟩) (Nat.le_succ _) (.int .i64 x)).set (p := ⟨w.heap.size + 1, 1, none⟩) (Nat.le_succ _) (.slice (some ⟨gp, 0, none⟩) 64 c)).set (p := ⟨w.heap.size + 1, 2, none⟩) (Nat.le_succ _) (.slice (some ⟨gq, 0, none⟩) 4 d))
            refine bodyPost_ret (results_cell_row rfl _ _ (w.heap.size + 1) _ _ _ _ rfl b3 Try.underlying52 rfl rfl) rfl ?_
            exact TurnPost.mk ⟨x, _, _, _, _, _, _, _, _, rfl, oP3.rbb, oQ3.rbb, fun h => absurd h (by decide), hE3⟩
          · have v1 : w12.cell? ⟨w1.heap.size, 1, none⟩ = some (.slice (some ⟨gp, 0, none⟩) 64 c) := hB.cell (i := 1) rfl
            have v2 : w12.cell? ⟨w1.heap.size, 2, none⟩ = some (.slice (some ⟨gq, 0, none⟩) 4 d) := hB.cell (i := 2) rfl
            have v0 : w12.cell? ⟨w1.heap.size, 0, none⟩ = some (.int .i64 x) := hB.cell (i := 0) rfl
            have q0 := hB.frozen 0
            have q1 := hB.frozen 1
            have q2 := hB.frozen 2
            have hle1 : w.heap.size ≤ w1.heap.size := by rw [Hs1.out]; omega
            obtain ⟨g', d', hc, o, hlt', hne', hset⟩ := ownP.at_ hi63
            have k0 := o.cell (i := 0) (by omega)
            have k1 := o.frozen 0
            have k2 := bits_xor8t (ub (lb Ps i) 0) t
            have gs := grown_set w12 ⟨g', 0, none⟩ (.int .u8 (u8i (ub (lb Ps i) 0 ^^^ t)))
            have hBf : Blk (w12.setCell ⟨g', 0, none⟩ (.int .u8 (u8i (ub (lb Ps i) 0 ^^^ t)))) w1.heap.size 52 #[.int .i64 x, .slice (some ⟨gp, 0, none⟩) 64 c, .slice (some ⟨gq, 0, none⟩) 4 d] := hB.far (o.ne_blk hB (by decide)) _
            have hB8f : Blk (w12.setCell ⟨g', 0, none⟩ (.int .u8 (u8i (ub (lb Ps i) 0 ^^^ t)))) (w.heap.size + 1) 52 #[.int .i64 0, .slice none 0 0, .slice none 0 0] := hB8.far (o.ne_blk hB8 (by decide)) _
            have hEf := hEw.set (p := ⟨g', 0, none⟩) (Nat.le_trans hle1 o.ge) (.int .u8 (u8i (ub (lb Ps i) 0 ^^^ t)))
            have oP := (hset 0 (ub (lb Ps i) 0 ^^^ t)).obc
            have oQ := (own.low gs (fun k hk => by cases hk; exact hlt')).obc
            have z0 : (w12.setCell ⟨g', 0, none⟩ (.int .u8 (u8i (ub (lb Ps i) 0 ^^^ t)))).cell? ⟨w1.heap.size, 0, none⟩ = some (.int .i64 x) := hBf.cell (i := 0) rfl
            have z1 : (w12.setCell ⟨g', 0, none⟩ (.int .u8 (u8i (ub (lb Ps i) 0 ^^^ t)))).cell? ⟨w1.heap.size, 1, none⟩ = some (.slice (some ⟨gp, 0, none⟩) 64 c) := hBf.cell (i := 1) rfl
            have z2 : (w12.setCell ⟨g', 0, none⟩ (.int .u8 (u8i (ub (lb Ps i) 0 ^^^ t)))).cell? ⟨w1.heap.size, 2, none⟩ = some (.slice (some ⟨gq, 0, none⟩) 4 d) := hBf.cell (i := 2) rfl
            have f0 := hB8f.frozen 0
            have x0 := hB8f.cell (i := 0) rfl
            have f1 := hB8f.frozen 1
            have x1 := hB8f.cell (i := 1) rfl
            have f2 := hB8f.frozen 2
            have x2 := hB8f.cell (i := 2) rfl
            go_wp2_with fail
            have g1 := fun (w' : World) (u : Value) (i : Nat) => grown_set w' ⟨w.heap.size + 1, i, none⟩ u
            have b1 := hB8f.set 0 (.int .i64 x)
            have b2 := b1.set 1 (.slice (some ⟨gp, 0, none⟩) 64 c)
            have b3 := b2.set 2 (.slice (some ⟨gq, 0, none⟩) 4 d)
            have oP3 := (((oP.far hB8f (by decide) (sig_no _ _ _ _ _ _ _) (g1 _ (.int .i64 x) 0)).far b1 (by decide) (sig_no _ _ _ _ _ _ _) (g1 _ (.slice (some ⟨gp, 0, none⟩) 64 c) 1)).far b2 (by decide) (sig_no _ _ _ _ _ _ _) (g1 _ (.slice (some ⟨gq, 0, none⟩) 4 d) 2))
            have oQ3 := (((oQ.far hB8f (by decide) (sig_no _ _ _ _ _ _ _) (g1 _ (.int .i64 x) 0)).far b1 (by decide) (sig_no _ _ _ _ _ _ _) (g1 _ (.slice (some ⟨gp, 0, none⟩) 64 c) 1)).far b2 (by decide) (sig_no _ _ _ _ _ _ _) (g1 _ (.slice (some ⟨gq, 0, none⟩) 4 d) 2))
            have hE3 := (((hEf.set (p := ⟨w.heap.size + 1, 0, none⟩) (Nat.le_succ _) (.int .i64 x)).set (p := ⟨w.heap.size + 1, 1, none⟩) (Nat.le_succ _) (.slice (some ⟨gp, 0, none⟩) 64 c)).set (p := ⟨w.heap.size + 1, 2, none⟩) (Nat.le_succ _) (.slice (some ⟨gq, 0, none⟩) 4 d))
            refine bodyPost_ret (results_cell_row rfl _ _ (w.heap.size + 1) _ _ _ _ rfl b3 Try.underlying52 rfl rfl) rfl ?_
            exact TurnPost.mk ⟨x, _, _, _, _, _, _, _, _, rfl, oP3.rbb, oQ3.rbb, fun _ => ⟨rfl, rfl, rfl⟩, hE3⟩
          · have v1 : w12.cell? ⟨w1.heap.size, 1, none⟩ = some (.slice (some ⟨gp, 0, none⟩) 64 c) := hB.cell (i := 1) rfl
            have v2 : w12.cell? ⟨w1.heap.size, 2, none⟩ = some (.slice (some ⟨gq, 0, none⟩) 4 d) := hB.cell (i := 2) rfl
            have v0 : w12.cell? ⟨w1.heap.size, 0, none⟩ = some (.int .i64 x) := hB.cell (i := 0) rfl
            have q0 := hB.frozen 0
            have q1 := hB.frozen 1
            have q2 := hB.frozen 2
            have hle1 : w.heap.size ≤ w1.heap.size := by rw [Hs1.out]; omega
            obtain ⟨g', d', hc, o, hlt', hne', hset⟩ := own.at_ hj3
            have k0 := o.cell (i := 0) (by omega)
            have k1 := o.frozen 0
            have k2 := bits_xor8t (ub (lb Qs j) 0) t
            have gs := grown_set w12 ⟨g', 0, none⟩ (.int .u8 (u8i (ub (lb Qs j) 0 ^^^ t)))
            have hBf : Blk (w12.setCell ⟨g', 0, none⟩ (.int .u8 (u8i (ub (lb Qs j) 0 ^^^ t)))) w1.heap.size 52 #[.int .i64 x, .slice (some ⟨gp, 0, none⟩) 64 c, .slice (some ⟨gq, 0, none⟩) 4 d] := hB.far (o.ne_blk hB (by decide)) _
            have hB8f : Blk (w12.setCell ⟨g', 0, none⟩ (.int .u8 (u8i (ub (lb Qs j) 0 ^^^ t)))) (w.heap.size + 1) 52 #[.int .i64 0, .slice none 0 0, .slice none 0 0] := hB8.far (o.ne_blk hB8 (by decide)) _
            have hEf := hEw.set (p := ⟨g', 0, none⟩) (Nat.le_trans (Nat.le_trans hle1 (Nat.le_of_lt hb9)) o.ge) (.int .u8 (u8i (ub (lb Qs j) 0 ^^^ t)))
            have oQ := (hset 0 (ub (lb Qs j) 0 ^^^ t)).obc
            have oP := (ownP.high gs (fun k hk => by cases hk; exact o.ge)).obc
            have z0 : (w12.setCell ⟨g', 0, none⟩ (.int .u8 (u8i (ub (lb Qs j) 0 ^^^ t)))).cell? ⟨w1.heap.size, 0, none⟩ = some (.int .i64 x) := hBf.cell (i := 0) rfl
            have z1 : (w12.setCell ⟨g', 0, none⟩ (.int .u8 (u8i (ub (lb Qs j) 0 ^^^ t)))).cell? ⟨w1.heap.size, 1, none⟩ = some (.slice (some ⟨gp, 0, none⟩) 64 c) := hBf.cell (i := 1) rfl
            have z2 : (w12.setCell ⟨g', 0, none⟩ (.int .u8 (u8i (ub (lb Qs j) 0 ^^^ t)))).cell? ⟨w1.heap.size, 2, none⟩ = some (.slice (some ⟨gq, 0, none⟩) 4 d) := hBf.cell (i := 2) rfl
            have f0 := hB8f.frozen 0
            have x0 := hB8f.cell (i := 0) rfl
            have f1 := hB8f.frozen 1
            have x1 := hB8f.cell (i := 1) rfl
            have f2 := hB8f.frozen 2
            have x2 := hB8f.cell (i := 2) rfl
            go_wp2_with fail
            have g1 := fun (w' : World) (u : Value) (i : Nat) => grown_set w' ⟨w.heap.size + 1, i, none⟩ u
            have b1 := hB8f.set 0 (.int .i64 x)
            have b2 := b1.set 1 (.slice (some ⟨gp, 0, none⟩) 64 c)
            have b3 := b2.set 2 (.slice (some ⟨gq, 0, none⟩) 4 d)
            have oP3 := (((oP.far hB8f (by decide) (sig_no _ _ _ _ _ _ _) (g1 _ (.int .i64 x) 0)).far b1 (by decide) (sig_no _ _ _ _ _ _ _) (g1 _ (.slice (some ⟨gp, 0, none⟩) 64 c) 1)).far b2 (by decide) (sig_no _ _ _ _ _ _ _) (g1 _ (.slice (some ⟨gq, 0, none⟩) 4 d) 2))
            have oQ3 := (((oQ.far hB8f (by decide) (sig_no _ _ _ _ _ _ _) (g1 _ (.int .i64 x) 0)).far b1 (by decide) (sig_no _ _ _ _ _ _ _) (g1 _ (.slice (some ⟨gp, 0, none⟩) 64 c) 1)).far b2 (by decide) (sig_no _ _ _ _ _ _ _) (g1 _ (.slice (some ⟨gq, 0, none⟩) 4 d) 2))
            have hE3 := (((hEf.set (p := ⟨w.heap.size + 1, 0, none⟩) (Nat.le_succ _) (.int .i64 x)).set (p := ⟨w.heap.size + 1, 1, none⟩) (Nat.le_succ _) (.slice (some ⟨gp, 0, none⟩) 64 c)).set (p := ⟨w.heap.size + 1, 2, none⟩) (Nat.le_succ _) (.slice (some ⟨gq, 0, none⟩) 4 d))
            refine bodyPost_ret (results_cell_row rfl _ _ (w.heap.size + 1) _ _ _ _ rfl b3 Try.underlying52 rfl rfl) rfl ?_
            exact TurnPost.mk ⟨x, _, _, _, _, _, _, _, _, rfl, oP3.rbb, oQ3.rbb, fun h => absurd h (by decide), hE3⟩
          · have v1 : w12.cell? ⟨w1.heap.size, 1, none⟩ = some (.slice (some ⟨gp, 0, none⟩) 64 c) := hB.cell (i := 1) rfl
            have v2 : w12.cell? ⟨w1.heap.size, 2, none⟩ = some (.slice (some ⟨gq, 0, none⟩) 4 d) := hB.cell (i := 2) rfl
            have v0 : w12.cell? ⟨w1.heap.size, 0, none⟩ = some (.int .i64 x) := hB.cell (i := 0) rfl
            have q0 := hB.frozen 0
            have q1 := hB.frozen 1
            have q2 := hB.frozen 2
            have hle1 : w.heap.size ≤ w1.heap.size := by rw [Hs1.out]; omega
            obtain ⟨xr, hxr⟩ := xor_some x t
            go_upto_region 21 with (fail)
            refine seq_ext (n := 5) (by kernel_rfl) [.is (.pointer (some ⟨w1.heap.size, 0, none⟩)), .is (.int .i64 (x)), .is (.int .u8 (u8i (t))), .is (.int .i64 (u8i t)), .is (.int .i64 (xr))] rfl ⟨?_, ?_, ?_, ?_, ?_, trivial⟩ ?_
            · refine stepE rfl fun sdn sa sw sE sd sk => ?_
              have h9 : sa.eval (.tmp 9) = .pointer (some ⟨w1.heap.size, 0, none⟩) := sk.old 9 rfl
              refine Runs.of_run (r := .pointer (some ⟨w1.heap.size, 0, none⟩)) (w' := sw) ?_ ⟨Ext.refl _, rfl⟩
              unfold execOp
              simp only [h9]
              go_simp
            · refine stepE rfl fun sdn sa sw sE sd sk => ?_
              have h119 : sa.eval (.tmp 119) = .pointer (some ⟨w1.heap.size, 0, none⟩) := sk.fact 0 119 rfl (sd 0 rfl)
              exact Runs.load rfl h119 (run_load1 Try.underlying3 rfl (sE.cell v0)) ⟨Ext.refl _, rfl⟩
            · refine stepE rfl fun sdn sa sw sE sd sk => ?_
              have h3 : sa.eval (.tmp 3) = .int .u8 (u8i (t)) := sk.old 3 rfl
              exact Runs.move rfl h3 ⟨Ext.refl _, rfl⟩
            · refine stepE rfl fun sdn sa sw sE sd sk => ?_
              have h121 : sa.eval (.tmp 121) = .int .u8 (u8i (t)) := sk.fact 2 121 rfl (sd 2 rfl)
              exact Runs.conv rfl h121 (conv_u8_i64' Try.underlying5 Try.underlying3 _) ⟨Ext.refl _, rfl⟩
            · refine stepE rfl fun sdn sa sw sE sd sk => ?_
              have h120 : sa.eval (.tmp 120) = .int .i64 (x) := sk.fact 1 120 rfl (sd 1 rfl)
              have h122 : sa.eval (.tmp 122) = .int .i64 (u8i t) := sk.fact 3 122 rfl (sd 3 rfl)
              exact Runs.bin rfl h120 h122 (eqGuard_bin rfl) (hxr _ _ _) ⟨Ext.refl _, rfl⟩
            intro vals w21 hE21 hv21
            have e0 : vals 0 = .pointer (some ⟨w1.heap.size, 0, none⟩) := hv21 0 (by omega) 119 rfl
            have e1 : vals 1 = .int .i64 (x) := hv21 1 (by omega) 120 rfl
            have e2 : vals 2 = .int .u8 (u8i (t)) := hv21 2 (by omega) 121 rfl
            have e3 : vals 3 = .int .i64 (u8i t) := hv21 3 (by omega) 122 rfl
            have e4 : vals 4 = .int .i64 (xr) := hv21 4 (by omega) 123 rfl
            simp only [putAll, Act.put, List.take_succ_cons, List.take_zero, List.drop_succ_cons, List.drop_zero, List.drop_nil, List.take_nil, Nat.reduceAdd, List.setIfInBounds_toArray, List.set_cons_succ, List.set_cons_zero, e0, e1, e2, e3, e4]
            clear hv21 e0 e1 e2 e3 e4
            have hB := hB.ext hE21
            have hB8 := hB8.ext hE21
            have ownP := ownP.ext hE21
            have own := own.ext hE21
            have hEw := hEw.trans hE21
            have q0 := hB.frozen 0
            have v0 := hB.cell (i := 0) (v := .int .i64 x) rfl
            have gs := grown_set w21 ⟨w1.heap.size, 0, none⟩ (.int .i64 xr)
            have hBf : Blk (w21.setCell ⟨w1.heap.size, 0, none⟩ (.int .i64 xr)) w1.heap.size 52 #[.int .i64 xr, .slice (some ⟨gp, 0, none⟩) 64 c, .slice (some ⟨gq, 0, none⟩) 4 d] := hB.set 0 _
            have hB8f : Blk (w21.setCell ⟨w1.heap.size, 0, none⟩ (.int .i64 xr)) (w.heap.size + 1) 52 #[.int .i64 0, .slice none 0 0, .slice none 0 0] := hB8.far (by show w.heap.size + 1 ≠ w1.heap.size; rw [Hs1.out]; omega) _
            have oP := (ownP.far gs (fun k hk => by cases hk; exact hB.other (by decide) (by decide))).obc
            have oQ := (own.far gs (fun k hk => by cases hk; exact hB.other (by decide) (by decide))).obc
            have hEf := hEw.set (p := ⟨w1.heap.size, 0, none⟩) hle1 (.int .i64 xr)
            have z0 : (w21.setCell ⟨w1.heap.size, 0, none⟩ (.int .i64 xr)).cell? ⟨w1.heap.size, 0, none⟩ = some (.int .i64 xr) := hBf.cell (i := 0) rfl
            have z1 : (w21.setCell ⟨w1.heap.size, 0, none⟩ (.int .i64 xr)).cell? ⟨w1.heap.size, 1, none⟩ = some (.slice (some ⟨gp, 0, none⟩) 64 c) := hBf.cell (i := 1) rfl
            have z2 : (w21.setCell ⟨w1.heap.size, 0, none⟩ (.int .i64 xr)).cell? ⟨w1.heap.size, 2, none⟩ = some (.slice (some ⟨gq, 0, none⟩) 4 d) := hBf.cell (i := 2) rfl
            have f0 := hB8f.frozen 0
            have x0 := hB8f.cell (i := 0) rfl
            have f1 := hB8f.frozen 1
            have x1 := hB8f.cell (i := 1) rfl
            have f2 := hB8f.frozen 2
            have x2 := hB8f.cell (i := 2) rfl
            go_wp2_with fail
            have g1 := fun (w' : World) (u : Value) (i : Nat) => grown_set w' ⟨w.heap.size + 1, i, none⟩ u
            have b1 := hB8f.set 0 (.int .i64 xr)
            have b2 := b1.set 1 (.slice (some ⟨gp, 0, none⟩) 64 c)
            have b3 := b2.set 2 (.slice (some ⟨gq, 0, none⟩) 4 d)
            have oP3 := (((oP.far hB8f (by decide) (sig_no _ _ _ _ _ _ _) (g1 _ (.int .i64 xr) 0)).far b1 (by decide) (sig_no _ _ _ _ _ _ _) (g1 _ (.slice (some ⟨gp, 0, none⟩) 64 c) 1)).far b2 (by decide) (sig_no _ _ _ _ _ _ _) (g1 _ (.slice (some ⟨gq, 0, none⟩) 4 d) 2))
            have oQ3 := (((oQ.far hB8f (by decide) (sig_no _ _ _ _ _ _ _) (g1 _ (.int .i64 xr) 0)).far b1 (by decide) (sig_no _ _ _ _ _ _ _) (g1 _ (.slice (some ⟨gp, 0, none⟩) 64 c) 1)).far b2 (by decide) (sig_no _ _ _ _ _ _ _) (g1 _ (.slice (some ⟨gq, 0, none⟩) 4 d) 2))
            have hE3 := (((hEf.set (p := ⟨w.heap.size + 1, 0, none⟩) (Nat.le_succ _) (.int .i64 xr)).set (p := ⟨w.heap.size + 1, 1, none⟩) (Nat.le_succ _) (.slice (some ⟨gp, 0, none⟩) 64 c)).set (p := ⟨w.heap.size + 1, 2, none⟩) (Nat.le_succ _) (.slice (some ⟨gq, 0, none⟩) 4 d))
            refine bodyPost_ret (results_cell_row rfl _ _ (w.heap.size + 1) _ _ _ _ rfl b3 Try.underlying52 rfl rfl) rfl ?_
            exact TurnPost.mk ⟨xr, _, _, _, _, _, _, _, _, rfl, oP3.rbb, oQ3.rbb, fun h => absurd h (by decide), hE3⟩
          · have v1 : w12.cell? ⟨w1.heap.size, 1, none⟩ = some (.slice (some ⟨gp, 0, none⟩) 64 c) := hB.cell (i := 1) rfl
            have v2 : w12.cell? ⟨w1.heap.size, 2, none⟩ = some (.slice (some ⟨gq, 0, none⟩) 4 d) := hB.cell (i := 2) rfl
            have v0 : w12.cell? ⟨w1.heap.size, 0, none⟩ = some (.int .i64 x) := hB.cell (i := 0) rfl
            have q0 := hB.frozen 0
            have q1 := hB.frozen 1
            have q2 := hB.frozen 2
            have hle1 : w.heap.size ≤ w1.heap.size := by rw [Hs1.out]; omega
            have gs := grown_set w12 ⟨w1.heap.size, 1, none⟩ (.slice (some ⟨gp, 0, none⟩) i c)
            have hBf : Blk (w12.setCell ⟨w1.heap.size, 1, none⟩ (.slice (some ⟨gp, 0, none⟩) i c)) w1.heap.size 52 #[.int .i64 x, .slice (some ⟨gp, 0, none⟩) i c, .slice (some ⟨gq, 0, none⟩) 4 d] := hB.set 1 _
            have hB8f : Blk (w12.setCell ⟨w1.heap.size, 1, none⟩ (.slice (some ⟨gp, 0, none⟩) i c)) (w.heap.size + 1) 52 #[.int .i64 0, .slice none 0 0, .slice none 0 0] := hB8.far (by show w.heap.size + 1 ≠ w1.heap.size; rw [Hs1.out]; omega) _
            have oP := (ownP.far gs (fun k hk => by cases hk; exact hB.other (by decide) (by decide))).obc
            have oQ := (own.far gs (fun k hk => by cases hk; exact hB.other (by decide) (by decide))).obc
            have hEf := hEw.set (p := ⟨w1.heap.size, 1, none⟩) hle1 (.slice (some ⟨gp, 0, none⟩) i c)
            have z0 : (w12.setCell ⟨w1.heap.size, 1, none⟩ (.slice (some ⟨gp, 0, none⟩) i c)).cell? ⟨w1.heap.size, 0, none⟩ = some (.int .i64 x) := hBf.cell (i := 0) rfl
            have z1 : (w12.setCell ⟨w1.heap.size, 1, none⟩ (.slice (some ⟨gp, 0, none⟩) i c)).cell? ⟨w1.heap.size, 1, none⟩ = some (.slice (some ⟨gp, 0, none⟩) i c) := hBf.cell (i := 1) rfl
            have z2 : (w12.setCell ⟨w1.heap.size, 1, none⟩ (.slice (some ⟨gp, 0, none⟩) i c)).cell? ⟨w1.heap.size, 2, none⟩ = some (.slice (some ⟨gq, 0, none⟩) 4 d) := hBf.cell (i := 2) rfl
            have f0 := hB8f.frozen 0
            have x0 := hB8f.cell (i := 0) rfl
            have f1 := hB8f.frozen 1
            have x1 := hB8f.cell (i := 1) rfl
            have f2 := hB8f.frozen 2
            have x2 := hB8f.cell (i := 2) rfl
            go_wp2_with fail
            have g1 := fun (w' : World) (u : Value) (i : Nat) => grown_set w' ⟨w.heap.size + 1, i, none⟩ u
            have b1 := hB8f.set 0 (.int .i64 x)
            have b2 := b1.set 1 (.slice (some ⟨gp, 0, none⟩) i c)
            have b3 := b2.set 2 (.slice (some ⟨gq, 0, none⟩) 4 d)
            have oP3 := (((oP.far hB8f (by decide) (sig_no _ _ _ _ _ _ _) (g1 _ (.int .i64 x) 0)).far b1 (by decide) (sig_no _ _ _ _ _ _ _) (g1 _ (.slice (some ⟨gp, 0, none⟩) i c) 1)).far b2 (by decide) (sig_no _ _ _ _ _ _ _) (g1 _ (.slice (some ⟨gq, 0, none⟩) 4 d) 2))
            have oQ3 := (((oQ.far hB8f (by decide) (sig_no _ _ _ _ _ _ _) (g1 _ (.int .i64 x) 0)).far b1 (by decide) (sig_no _ _ _ _ _ _ _) (g1 _ (.slice (some ⟨gp, 0, none⟩) i c) 1)).far b2 (by decide) (sig_no _ _ _ _ _ _ _) (g1 _ (.slice (some ⟨gq, 0, none⟩) 4 d) 2))
            have hE3 := (((hEf.set (p := ⟨w.heap.size + 1, 0, none⟩) (Nat.le_succ _) (.int .i64 x)).set (p := ⟨w.heap.size + 1, 1, none⟩) (Nat.le_succ _) (.slice (some ⟨gp, 0, none⟩) i c)).set (p := ⟨w.heap.size + 1, 2, none⟩) (Nat.le_succ _) (.slice (some ⟨gq, 0, none⟩) 4 d))
            refine bodyPost_ret (results_cell_row rfl _ _ (w.heap.size + 1) _ _ _ _ rfl b3 Try.underlying52 rfl rfl) rfl ?_
            exact TurnPost.mk ⟨x, _, _, _, _, _, _, _, _, rfl, oP3.rbb.take (by omega), oQ3.rbb, fun h => absurd h (by decide), hE3⟩
          · have v1 : w12.cell? ⟨w1.heap.size, 1, none⟩ = some (.slice (some ⟨gp, 0, none⟩) 64 c) := hB.cell (i := 1) rfl
            have v2 : w12.cell? ⟨w1.heap.size, 2, none⟩ = some (.slice (some ⟨gq, 0, none⟩) 4 d) := hB.cell (i := 2) rfl
            have v0 : w12.cell? ⟨w1.heap.size, 0, none⟩ = some (.int .i64 x) := hB.cell (i := 0) rfl
            have q0 := hB.frozen 0
            have q1 := hB.frozen 1
            have q2 := hB.frozen 2
            have hle1 : w.heap.size ≤ w1.heap.size := by rw [Hs1.out]; omega
            have gs := grown_set w12 ⟨w1.heap.size, 2, none⟩ (.slice (some ⟨gq, 0, none⟩) j d)
            have hBf : Blk (w12.setCell ⟨w1.heap.size, 2, none⟩ (.slice (some ⟨gq, 0, none⟩) j d)) w1.heap.size 52 #[.int .i64 x, .slice (some ⟨gp, 0, none⟩) 64 c, .slice (some ⟨gq, 0, none⟩) j d] := hB.set 2 _
            have hB8f : Blk (w12.setCell ⟨w1.heap.size, 2, none⟩ (.slice (some ⟨gq, 0, none⟩) j d)) (w.heap.size + 1) 52 #[.int .i64 0, .slice none 0 0, .slice none 0 0] := hB8.far (by show w.heap.size + 1 ≠ w1.heap.size; rw [Hs1.out]; omega) _
            have oP := (ownP.far gs (fun k hk => by cases hk; exact hB.other (by decide) (by decide))).obc
            have oQ := (own.far gs (fun k hk => by cases hk; exact hB.other (by decide) (by decide))).obc
            have hEf := hEw.set (p := ⟨w1.heap.size, 2, none⟩) hle1 (.slice (some ⟨gq, 0, none⟩) j d)
            have z0 : (w12.setCell ⟨w1.heap.size, 2, none⟩ (.slice (some ⟨gq, 0, none⟩) j d)).cell? ⟨w1.heap.size, 0, none⟩ = some (.int .i64 x) := hBf.cell (i := 0) rfl
            have z1 : (w12.setCell ⟨w1.heap.size, 2, none⟩ (.slice (some ⟨gq, 0, none⟩) j d)).cell? ⟨w1.heap.size, 1, none⟩ = some (.slice (some ⟨gp, 0, none⟩) 64 c) := hBf.cell (i := 1) rfl
            have z2 : (w12.setCell ⟨w1.heap.size, 2, none⟩ (.slice (some ⟨gq, 0, none⟩) j d)).cell? ⟨w1.heap.size, 2, none⟩ = some (.slice (some ⟨gq, 0, none⟩) j d) := hBf.cell (i := 2) rfl
            have f0 := hB8f.frozen 0
            have x0 := hB8f.cell (i := 0) rfl
            have f1 := hB8f.frozen 1
            have x1 := hB8f.cell (i := 1) rfl
            have f2 := hB8f.frozen 2
            have x2 := hB8f.cell (i := 2) rfl
            go_wp2_with fail
            have g1 := fun (w' : World) (u : Value) (i : Nat) => grown_set w' ⟨w.heap.size + 1, i, none⟩ u
            have b1 := hB8f.set 0 (.int .i64 x)
            have b2 := b1.set 1 (.slice (some ⟨gp, 0, none⟩) 64 c)
            have b3 := b2.set 2 (.slice (some ⟨gq, 0, none⟩) j d)
            have oP3 := (((oP.far hB8f (by decide) (sig_no _ _ _ _ _ _ _) (g1 _ (.int .i64 x) 0)).far b1 (by decide) (sig_no _ _ _ _ _ _ _) (g1 _ (.slice (some ⟨gp, 0, none⟩) 64 c) 1)).far b2 (by decide) (sig_no _ _ _ _ _ _ _) (g1 _ (.slice (some ⟨gq, 0, none⟩) j d) 2))
            have oQ3 := (((oQ.far hB8f (by decide) (sig_no _ _ _ _ _ _ _) (g1 _ (.int .i64 x) 0)).far b1 (by decide) (sig_no _ _ _ _ _ _ _) (g1 _ (.slice (some ⟨gp, 0, none⟩) 64 c) 1)).far b2 (by decide) (sig_no _ _ _ _ _ _ _) (g1 _ (.slice (some ⟨gq, 0, none⟩) j d) 2))
            have hE3 := (((hEf.set (p := ⟨w.heap.size + 1, 0, none⟩) (Nat.le_succ _) (.int .i64 x)).set (p := ⟨w.heap.size + 1, 1, none⟩) (Nat.le_succ _) (.slice (some ⟨gp, 0, none⟩) 64 c)).set (p := ⟨w.heap.size + 1, 2, none⟩) (Nat.le_succ _) (.slice (some ⟨gq, 0, none⟩) j d))
            refine bodyPost_ret (results_cell_row rfl _ _ (w.heap.size + 1) _ _ _ _ rfl b3 Try.underlying52 rfl rfl) rfl ?_
            exact TurnPost.mk ⟨x, _, _, _, _, _, _, _, _, rfl, oP3.rbb, oQ3.rbb.take (by omega), fun h => absurd h (by decide), hE3⟩
          · have v1 : w12.cell? ⟨w1.heap.size, 1, none⟩ = some (.slice (some ⟨gp, 0, none⟩) 64 c) := hB.cell (i := 1) rfl
            have v2 : w12.cell? ⟨w1.heap.size, 2, none⟩ = some (.slice (some ⟨gq, 0, none⟩) 4 d) := hB.cell (i := 2) rfl
            have v0 : w12.cell? ⟨w1.heap.size, 0, none⟩ = some (.int .i64 x) := hB.cell (i := 0) rfl
            have q0 := hB.frozen 0
            have q1 := hB.frozen 1
            have q2 := hB.frozen 2
            have hle1 : w.heap.size ≤ w1.heap.size := by rw [Hs1.out]; omega
            obtain ⟨g', d', hc, o, hlt', hne', _⟩ := ownP.at_ hi63
            have hc' : w12.cell? ((⟨gp, 0, none⟩ : Addr).add i) = some (.slice (some ⟨g', 0, none⟩) 32 d') := by rw [add_plain]; exact hc
            have hroom := o.rb.room
            go_upto_region 27 with (fail)
            refine par_ext (n := 16) (by kernel_rfl) [.is (.pointer (some ⟨w1.heap.size, 1, none⟩)), .is (.slice (some ⟨gp, 0, none⟩) (64) (c)), .is (.int .i64 (((i : Nat) : Int))), .is (.pointer (some ⟨w1.heap.size, 1, none⟩)), .is (.slice (some ⟨gp, 0, none⟩) (64) (c)), .is (.int .i64 (((i : Nat) : Int))), .is (.pointer (some ((⟨gp, 0, none⟩ : Addr).add (i)))), .is (.slice (some ⟨g', 0, none⟩) (32) (d')), .is (.pointer (some ⟨w1.heap.size, 1, none⟩)), .is (.slice (some ⟨gp, 0, none⟩) (64) (c)), .is (.int .i64 (((i : Nat) : Int))), .is (.pointer (some ((⟨gp, 0, none⟩ : Addr).add (i)))), .is (.slice (some ⟨g', 0, none⟩) (32) (d')), .is (.int .i64 ((32 : Nat))), .is (.int .i64 (((32 / 2 : Nat) : Int))), .is (.slice (some ⟨g', 0, none⟩) ((32 / 2)) (d'))] rfl ⟨?_, ?_, ?_, ?_, ?_, ?_, ?_, ?_, ?_, ?_, ?_, ?_, ?_, ?_, ?_, ?_, trivial⟩ ?_
            · refine stepE rfl fun sdn sa sw sE sd sk => ?_
              have h9 : sa.eval (.tmp 9) = .pointer (some ⟨w1.heap.size, 0, none⟩) := sk.old 9 rfl
              refine Runs.of_run (r := .pointer (some ⟨w1.heap.size, 1, none⟩)) (w' := sw) ?_ ⟨Ext.refl _, rfl⟩
              unfold execOp
              simp only [h9]
              go_simp
            · refine stepE rfl fun sdn sa sw sE sd sk => ?_
              have h141 : sa.eval (.tmp 141) = .pointer (some ⟨w1.heap.size, 1, none⟩) := sk.fact 0 141 rfl (sd 0 rfl)
              exact Runs.load rfl h141 (run_load1 Try.underlying50 rfl (sE.cell v1)) ⟨Ext.refl _, rfl⟩
            · refine stepE rfl fun sdn sa sw sE sd sk => ?_
              have h12 : sa.eval (.tmp 12) = .int .i64 (((i : Nat) : Int)) := sk.old 12 rfl
              exact Runs.move rfl h12 ⟨Ext.refl _, rfl⟩
            · refine stepE rfl fun sdn sa sw sE sd sk => ?_
              have h9 : sa.eval (.tmp 9) = .pointer (some ⟨w1.heap.size, 0, none⟩) := sk.old 9 rfl
              refine Runs.of_run (r := .pointer (some ⟨w1.heap.size, 1, none⟩)) (w' := sw) ?_ ⟨Ext.refl _, rfl⟩
              unfold execOp
              simp only [h9]
              go_simp
            · refine stepE rfl fun sdn sa sw sE sd sk => ?_
              have h144 : sa.eval (.tmp 144) = .pointer (some ⟨w1.heap.size, 1, none⟩) := sk.fact 3 144 rfl (sd 3 rfl)
              exact Runs.load rfl h144 (run_load1 Try.underlying50 rfl (sE.cell v1)) ⟨Ext.refl _, rfl⟩
            · refine stepE rfl fun sdn sa sw sE sd sk => ?_
              have h12 : sa.eval (.tmp 12) = .int .i64 (((i : Nat) : Int)) := sk.old 12 rfl
              exact Runs.move rfl h12 ⟨Ext.refl _, rfl⟩
            · refine stepE rfl fun sdn sa sw sE sd sk => ?_
              have h145 : sa.eval (.tmp 145) = .slice (some ⟨gp, 0, none⟩) (64) (c) := sk.fact 4 145 rfl (sd 4 rfl)
              have h146 : sa.eval (.tmp 146) = .int .i64 (((i : Nat) : Int)) := sk.fact 5 146 rfl (sd 5 rfl)
              exact Runs.idx rfl h145 h146 (run_idx_sl1 Try.underlying50 infZZ_eq infZZ_size (i) (by omega) (by omega)) ⟨Ext.refl _, rfl⟩
            · refine stepE rfl fun sdn sa sw sE sd sk => ?_
              have h147 : sa.eval (.tmp 147) = .pointer (some ((⟨gp, 0, none⟩ : Addr).add (i))) := sk.fact 6 147 rfl (sd 6 rfl)
              exact Runs.load rfl h147 (run_load1 Try.underlying22 rfl (sE.cell hc')) ⟨Ext.refl _, rfl⟩
            · refine stepE rfl fun sdn sa sw sE sd sk => ?_
              have h9 : sa.eval (.tmp 9) = .pointer (some ⟨w1.heap.size, 0, none⟩) := sk.old 9 rfl
              refine Runs.of_run (r := .pointer (some ⟨w1.heap.size, 1, none⟩)) (w' := sw) ?_ ⟨Ext.refl _, rfl⟩
              unfold execOp
              simp only [h9]
              go_simp
            · refine stepE rfl fun sdn sa sw sE sd sk => ?_
              have h149 : sa.eval (.tmp 149) = .pointer (some ⟨w1.heap.size, 1, none⟩) := sk.fact 8 149 rfl (sd 8 rfl)
              exact Runs.load rfl h149 (run_load1 Try.underlying50 rfl (sE.cell v1)) ⟨Ext.refl _, rfl⟩
            · refine stepE rfl fun sdn sa sw sE sd sk => ?_
              have h12 : sa.eval (.tmp 12) = .int .i64 (((i : Nat) : Int)) := sk.old 12 rfl
              exact Runs.move rfl h12 ⟨Ext.refl _, rfl⟩
            · refine stepE rfl fun sdn sa sw sE sd sk => ?_
              have h150 : sa.eval (.tmp 150) = .slice (some ⟨gp, 0, none⟩) (64) (c) := sk.fact 9 150 rfl (sd 9 rfl)
              have h151 : sa.eval (.tmp 151) = .int .i64 (((i : Nat) : Int)) := sk.fact 10 151 rfl (sd 10 rfl)
              exact Runs.idx rfl h150 h151 (run_idx_sl1 Try.underlying50 infZZ_eq infZZ_size (i) (by omega) (by omega)) ⟨Ext.refl _, rfl⟩
            · refine stepE rfl fun sdn sa sw sE sd sk => ?_
              have h152 : sa.eval (.tmp 152) = .pointer (some ((⟨gp, 0, none⟩ : Addr).add (i))) := sk.fact 11 152 rfl (sd 11 rfl)
              exact Runs.load rfl h152 (run_load1 Try.underlying22 rfl (sE.cell hc')) ⟨Ext.refl _, rfl⟩
            · refine stepE rfl fun sdn sa sw sE sd sk => ?_
              have h153 : sa.eval (.tmp 153) = .slice (some ⟨g', 0, none⟩) (32) (d') := sk.fact 12 153 rfl (sd 12 rfl)
              exact Runs.len Try.underlying22 rfl h153 ⟨Ext.refl _, rfl⟩
            · refine stepE rfl fun sdn sa sw sE sd sk => ?_
              have h154 : sa.eval (.tmp 154) = .int .i64 ((32 : Nat)) := sk.fact 13 154 rfl (sd 13 rfl)
              exact Runs.bin rfl h154 rfl (eqGuard_bin rfl) (bin_quo2 _ 32 (by omega)) ⟨Ext.refl _, rfl⟩
            · refine stepE rfl fun sdn sa sw sE sd sk => ?_
              have h148 : sa.eval (.tmp 148) = .slice (some ⟨g', 0, none⟩) (32) (d') := sk.fact 7 148 rfl (sd 7 rfl)
              have h155 : sa.eval (.tmp 155) = .int .i64 (((32 / 2 : Nat) : Int)) := sk.fact 14 155 rfl (sd 14 rfl)
              exact Runs.slice rfl h148 (by simp only [Option.map_some, Option.map_none, h155]; exact run_cut_h Try.underlying22 inf22_eq ((32 / 2)) (by first | rfl | omega) (by omega)) ⟨Ext.refl _, rfl⟩
            intro vals w27 hE27 hv27
            have e0 : vals 0 = .pointer (some ⟨w1.heap.size, 1, none⟩) := hv27 0 (by omega) 141 rfl
            have e1 : vals 1 = .slice (some ⟨gp, 0, none⟩) (64) (c) := hv27 1 (by omega) 142 rfl
            have e2 : vals 2 = .int .i64 (((i : Nat) : Int)) := hv27 2 (by omega) 143 rfl
            have e3 : vals 3 = .pointer (some ⟨w1.heap.size, 1, none⟩) := hv27 3 (by omega) 144 rfl
            have e4 : vals 4 = .slice (some ⟨gp, 0, none⟩) (64) (c) := hv27 4 (by omega) 145 rfl
            have e5 : vals 5 = .int .i64 (((i : Nat) : Int)) := hv27 5 (by omega) 146 rfl
            have e6 : vals 6 = .pointer (some ((⟨gp, 0, none⟩ : Addr).add (i))) := hv27 6 (by omega) 147 rfl
            have e7 : vals 7 = .slice (some ⟨g', 0, none⟩) (32) (d') := hv27 7 (by omega) 148 rfl
            have e8 : vals 8 = .pointer (some ⟨w1.heap.size, 1, none⟩) := hv27 8 (by omega) 149 rfl
            have e9 : vals 9 = .slice (some ⟨gp, 0, none⟩) (64) (c) := hv27 9 (by omega) 150 rfl
            have e10 : vals 10 = .int .i64 (((i : Nat) : Int)) := hv27 10 (by omega) 151 rfl
            have e11 : vals 11 = .pointer (some ((⟨gp, 0, none⟩ : Addr).add (i))) := hv27 11 (by omega) 152 rfl
            have e12 : vals 12 = .slice (some ⟨g', 0, none⟩) (32) (d') := hv27 12 (by omega) 153 rfl
            have e13 : vals 13 = .int .i64 ((32 : Nat)) := hv27 13 (by omega) 154 rfl
            have e14 : vals 14 = .int .i64 (((32 / 2 : Nat) : Int)) := hv27 14 (by omega) 155 rfl
            have e15 : vals 15 = .slice (some ⟨g', 0, none⟩) ((32 / 2)) (d') := hv27 15 (by omega) 156 rfl
            simp only [putAll, Act.put, List.take_succ_cons, List.take_zero, List.drop_succ_cons, List.drop_zero, List.drop_nil, List.take_nil, Nat.reduceAdd, List.setIfInBounds_toArray, List.set_cons_succ, List.set_cons_zero, e0, e1, e2, e3, e4, e5, e6, e7, e8, e9, e10, e11, e12, e13, e14, e15]
            clear hv27 e0 e1 e2 e3 e4 e5 e6 e7 e8 e9 e10 e11 e12 e13 e14 e15
            have hB := hB.ext hE27
            have hB8 := hB8.ext hE27
            have ownP := ownP.ext hE27
            have own := own.ext hE27
            have hEw := hEw.trans hE27
            have o := o.ext hE27
            have hc := hE27.cell hc
            have k1 := ownP.obc.frozen i
            have rE : RB w27 (some ⟨g', 0, none⟩) (32 / 2) d' ((lb Ps i).take (32 / 2)) := o.rb.take (by omega)
            have gs := grown_set w27 ⟨gp, i, none⟩ (.slice (some ⟨g', 0, none⟩) (32 / 2) d')
            have hBf : Blk (w27.setCell ⟨gp, i, none⟩ (.slice (some ⟨g', 0, none⟩) (32 / 2) d')) w1.heap.size 52 #[.int .i64 x, .slice (some ⟨gp, 0, none⟩) 64 c, .slice (some ⟨gq, 0, none⟩) 4 d] := hB.far (ownP.ne_blk hB (by decide)) _
            have hB8f : Blk (w27.setCell ⟨gp, i, none⟩ (.slice (some ⟨g', 0, none⟩) (32 / 2) d')) (w.heap.size + 1) 52 #[.int .i64 0, .slice none 0 0, .slice none 0 0] := hB8.far (ownP.ne_blk hB8 (by decide)) _
            have oP := OBC.store5 (a := w27) ownP.obc rE (fun _ e => hne' (by injection e)) i hi63
            have oQ := (own.low gs (fun k hk => by cases hk; exact ownP.row_lt)).obc
            have hEf := hEw.set (p := ⟨gp, i, none⟩) (Nat.le_trans hle1 (ownP.lt (k := gp) rfl).1) (.slice (some ⟨g', 0, none⟩) (32 / 2) d')
            have z0 : (w27.setCell ⟨gp, i, none⟩ (.slice (some ⟨g', 0, none⟩) (32 / 2) d')).cell? ⟨w1.heap.size, 0, none⟩ = some (.int .i64 x) := hBf.cell (i := 0) rfl
            have z1 : (w27.setCell ⟨gp, i, none⟩ (.slice (some ⟨g', 0, none⟩) (32 / 2) d')).cell? ⟨w1.heap.size, 1, none⟩ = some (.slice (some ⟨gp, 0, none⟩) 64 c) := hBf.cell (i := 1) rfl
            have z2 : (w27.setCell ⟨gp, i, none⟩ (.slice (some ⟨g', 0, none⟩) (32 / 2) d')).cell? ⟨w1.heap.size, 2, none⟩ = some (.slice (some ⟨gq, 0, none⟩) 4 d) := hBf.cell (i := 2) rfl
            have f0 := hB8f.frozen 0
            have x0 := hB8f.cell (i := 0) rfl
            have f1 := hB8f.frozen 1
            have x1 := hB8f.cell (i := 1) rfl
            have f2 := hB8f.frozen 2
            have x2 := hB8f.cell (i := 2) rfl
            go_wp2_with fail
            have g1 := fun (w' : World) (u : Value) (i : Nat) => grown_set w' ⟨w.heap.size + 1, i, none⟩ u
            have b1 := hB8f.set 0 (.int .i64 x)
            have b2 := b1.set 1 (.slice (some ⟨gp, 0, none⟩) 64 c)
            have b3 := b2.set 2 (.slice (some ⟨gq, 0, none⟩) 4 d)
            have oP3 := (((oP.far hB8f (by decide) (sig_no _ _ _ _ _ _ _) (g1 _ (.int .i64 x) 0)).far b1 (by decide) (sig_no _ _ _ _ _ _ _) (g1 _ (.slice (some ⟨gp, 0, none⟩) 64 c) 1)).far b2 (by decide) (sig_no _ _ _ _ _ _ _) (g1 _ (.slice (some ⟨gq, 0, none⟩) 4 d) 2))
            have oQ3 := (((oQ.far hB8f (by decide) (sig_no _ _ _ _ _ _ _) (g1 _ (.int .i64 x) 0)).far b1 (by decide) (sig_no _ _ _ _ _ _ _) (g1 _ (.slice (some ⟨gp, 0, none⟩) 64 c) 1)).far b2 (by decide) (sig_no _ _ _ _ _ _ _) (g1 _ (.slice (some ⟨gq, 0, none⟩) 4 d) 2))
            have hE3 := (((hEf.set (p := ⟨w.heap.size + 1, 0, none⟩) (Nat.le_succ _) (.int .i64 x)).set (p := ⟨w.heap.size + 1, 1, none⟩) (Nat.le_succ _) (.slice (some ⟨gp, 0, none⟩) 64 c)).set (p := ⟨w.heap.size + 1, 2, none⟩) (Nat.le_succ _) (.slice (some ⟨gq, 0, none⟩) 4 d))
            refine bodyPost_ret (results_cell_row rfl _ _ (w.heap.size + 1) _ _ _ _ rfl b3 Try.underlying52 rfl rfl) rfl ?_
            exact TurnPost.mk ⟨x, _, _, _, _, _, _, _, _, rfl, oP3.rbb, oQ3.rbb, fun h => absurd h (by decide), hE3⟩
          · have v1 : w12.cell? ⟨w1.heap.size, 1, none⟩ = some (.slice (some ⟨gp, 0, none⟩) 64 c) := hB.cell (i := 1) rfl
            have v2 : w12.cell? ⟨w1.heap.size, 2, none⟩ = some (.slice (some ⟨gq, 0, none⟩) 4 d) := hB.cell (i := 2) rfl
            have v0 : w12.cell? ⟨w1.heap.size, 0, none⟩ = some (.int .i64 x) := hB.cell (i := 0) rfl
            have q0 := hB.frozen 0
            have q1 := hB.frozen 1
            have q2 := hB.frozen 2
            have hle1 : w.heap.size ≤ w1.heap.size := by rw [Hs1.out]; omega
            go_upto_region 29 with (fail)
            refine par_ext (n := 4) (by kernel_rfl) [.is (.pointer (some ⟨w1.heap.size, 2, none⟩)), .is (.slice (some ⟨gq, 0, none⟩) (4) (d)), .ob32 (w12.heap.size) (List.replicate 32 0), .one32 (w12.heap.size) (List.replicate 32 0)] rfl ⟨?_, ?_, ?_, ?_, trivial⟩ ?_
            · refine stepE rfl fun sdn sa sw sE sd sk => ?_
              have h9 : sa.eval (.tmp 9) = .pointer (some ⟨w1.heap.size, 0, none⟩) := sk.old 9 rfl
              refine Runs.of_run (r := .pointer (some ⟨w1.heap.size, 2, none⟩)) (w' := sw) ?_ ⟨Ext.refl _, rfl⟩
              unfold execOp
              simp only [h9]
              go_simp
            · refine stepE rfl fun sdn sa sw sE sd sk => ?_
              have h160 : sa.eval (.tmp 160) = .pointer (some ⟨w1.heap.size, 2, none⟩) := sk.fact 0 160 rfl (sd 0 rfl)
              exact Runs.load rfl h160 (run_load1 Try.underlying50 rfl (sE.cell v2)) ⟨Ext.refl _, rfl⟩
            · refine stepE rfl fun sdn sa sw sE sd sk => ?_
              exact Runs.make32 rfl rfl rfl (fun w1 o1 e1 => ⟨e1, _, _, rfl, o1.base sE.size⟩)
            · refine stepE rfl fun sdn sa sw sE sd sk => ?_
              obtain ⟨g162, d162, h162, o162⟩ := sk.fact 2 162 rfl (sd 2 rfl)
              exact Runs.one1 rfl h162 (fun w1 e1 b1 => ⟨e1, _, _, _, rfl, b1, o162.ext e1⟩)
            intro vals w29 hE29 hv29
            have e0 : vals 0 = .pointer (some ⟨w1.heap.size, 2, none⟩) := hv29 0 (by omega) 160 rfl
            have e1 : vals 1 = .slice (some ⟨gq, 0, none⟩) (4) (d) := hv29 1 (by omega) 161 rfl
            obtain ⟨g162, d162, e2, o162⟩ := hv29 2 (by omega) 162 rfl
            obtain ⟨x163, g163, d163, e3, hc163, o163⟩ := hv29 3 (by omega) 163 rfl
            simp only [putAll, Act.put, List.take_succ_cons, List.take_zero, List.drop_succ_cons, List.drop_zero, List.drop_nil, List.take_nil, Nat.reduceAdd, List.setIfInBounds_toArray, List.set_cons_succ, List.set_cons_zero, e0, e1, e2, e3]
            clear hv29 e0 e1 e2 e3
            have hne9 : some w1.heap.size ≠ blk (some ⟨gq, 0, none⟩) := fun e => own.ne_blk hB (by decide) (by injection e)
            have hB5 := hB.ext hE29
            have own5 := own.ext hE29
            have ownP5 := ownP.ext hE29
            have hsz5 : w2.heap.size ≤ w29.heap.size := Nat.le_trans hsz2 hE29.size
            go_upto_region 32 with (refine appbx_law (b := w2.heap.size) (Y := List.replicate 32 0) rfl rfl rfl rfl hc163 own5 (o163.base hsz2) o163.ge hsz5 (by omega) ?_; intro A6 c6 w6 own6 g6; have hB6 := hB5.grown g6 hne9; have v6 := hB6.cell (i := 2) (v := .slice (some ⟨gq, 0, none⟩) 4 d) rfl; have f6 := hB6.frozen 2)
            have ownP := ownP5.high g6 (fun b hb => (own5.lt hb).1)
            have own := own6
            have hB := hB6
            have hB8 := (hB8.ext hE29).grown g6 (by intro e; exact (own5.ne_blk (hB8.ext hE29) (by decide)) (by injection e))
            have hEw := (hEw.trans hE29).then_grown g6 (fun b hb => Nat.le_trans hle1 (Nat.le_trans (Nat.le_of_lt hb9) (own5.lt hb).1))
            have gs := grown_set w6 ⟨w1.heap.size, 2, none⟩ (.slice A6 (4 + 1) c6)
            have hBf : Blk (w6.setCell ⟨w1.heap.size, 2, none⟩ (.slice A6 (4 + 1) c6)) w1.heap.size 52 #[.int .i64 x, .slice (some ⟨gp, 0, none⟩) 64 c, .slice A6 (4 + 1) c6] := hB.set 2 _
            have hB8f : Blk (w6.setCell ⟨w1.heap.size, 2, none⟩ (.slice A6 (4 + 1) c6)) (w.heap.size + 1) 52 #[.int .i64 0, .slice none 0 0, .slice none 0 0] := hB8.far (by show w.heap.size + 1 ≠ w1.heap.size; rw [Hs1.out]; omega) _
            have oP := (ownP.far gs (fun k hk => by cases hk; exact hB.other (by decide) (by decide))).obc
            have oQ := (own.far gs (fun k hk => by cases hk; exact hB.other (by decide) (by decide))).obc
            have hEf := hEw.set (p := ⟨w1.heap.size, 2, none⟩) hle1 (.slice A6 (4 + 1) c6)
            have z0 : (w6.setCell ⟨w1.heap.size, 2, none⟩ (.slice A6 (4 + 1) c6)).cell? ⟨w1.heap.size, 0, none⟩ = some (.int .i64 x) := hBf.cell (i := 0) rfl
            have z1 : (w6.setCell ⟨w1.heap.size, 2, none⟩ (.slice A6 (4 + 1) c6)).cell? ⟨w1.heap.size, 1, none⟩ = some (.slice (some ⟨gp, 0, none⟩) 64 c) := hBf.cell (i := 1) rfl
            have z2 : (w6.setCell ⟨w1.heap.size, 2, none⟩ (.slice A6 (4 + 1) c6)).cell? ⟨w1.heap.size, 2, none⟩ = some (.slice A6 (4 + 1) c6) := hBf.cell (i := 2) rfl
            have f0 := hB8f.frozen 0
            have x0 := hB8f.cell (i := 0) rfl
            have f1 := hB8f.frozen 1
            have x1 := hB8f.cell (i := 1) rfl
            have f2 := hB8f.frozen 2
            have x2 := hB8f.cell (i := 2) rfl
            go_wp2_with fail
            have g1 := fun (w' : World) (u : Value) (i : Nat) => grown_set w' ⟨w.heap.size + 1, i, none⟩ u
            have b1 := hB8f.set 0 (.int .i64 x)
            have b2 := b1.set 1 (.slice (some ⟨gp, 0, none⟩) 64 c)
            have b3 := b2.set 2 (.slice A6 (4 + 1) c6)
            have oP3 := (((oP.far hB8f (by decide) (sig_no _ _ _ _ _ _ _) (g1 _ (.int .i64 x) 0)).far b1 (by decide) (sig_no _ _ _ _ _ _ _) (g1 _ (.slice (some ⟨gp, 0, none⟩) 64 c) 1)).far b2 (by decide) (sig_no _ _ _ _ _ _ _) (g1 _ (.slice A6 (4 + 1) c6) 2))
            have oQ3 := (((oQ.far hB8f (by decide) (sig_no _ _ _ _ _ _ _) (g1 _ (.int .i64 x) 0)).far b1 (by decide) (sig_no _ _ _ _ _ _ _) (g1 _ (.slice (some ⟨gp, 0, none⟩) 64 c) 1)).far b2 (by decide) (sig_no _ _ _ _ _ _ _) (g1 _ (.slice A6 (4 + 1) c6) 2))
            have hE3 := (((hEf.set (p := ⟨w.heap.size + 1, 0, none⟩) (Nat.le_succ _) (.int .i64 x)).set (p := ⟨w.heap.size + 1, 1, none⟩) (Nat.le_succ _) (.slice (some ⟨gp, 0, none⟩) 64 c)).set (p := ⟨w.heap.size + 1, 2, none⟩) (Nat.le_succ _) (.slice A6 (4 + 1) c6))
            refine bodyPost_ret (results_cell_row rfl _ _ (w.heap.size + 1) _ _ _ _ rfl b3 Try.underlying52 rfl rfl) rfl ?_
            exact TurnPost.mk ⟨x, _, _, _, _, _, _, _, _, rfl, oP3.rbb, oQ3.rbb, fun h => absurd h (by decide), hE3⟩
          · have v1 : w12.cell? ⟨w1.heap.size, 1, none⟩ = some (.slice (some ⟨gp, 0, none⟩) 64 c) := hB.cell (i := 1) rfl
            have v2 : w12.cell? ⟨w1.heap.size, 2, none⟩ = some (.slice (some ⟨gq, 0, none⟩) 4 d) := hB.cell (i := 2) rfl
            have v0 : w12.cell? ⟨w1.heap.size, 0, none⟩ = some (.int .i64 x) := hB.cell (i := 0) rfl
            have q0 := hB.frozen 0
            have q1 := hB.frozen 1
            have q2 := hB.frozen 2
            have hle1 : w.heap.size ≤ w1.heap.size := by rw [Hs1.out]; omega
            have gs := grown_set w12 ⟨w1.heap.size, 0, none⟩ (.int .i64 (-1))
            have hBf : Blk (w12.setCell ⟨w1.heap.size, 0, none⟩ (.int .i64 (-1))) w1.heap.size 52 #[.int .i64 (-1), .slice (some ⟨gp, 0, none⟩) 64 c, .slice (some ⟨gq, 0, none⟩) 4 d] := hB.set 0 _
            have hB8f : Blk (w12.setCell ⟨w1.heap.size, 0, none⟩ (.int .i64 (-1))) (w.heap.size + 1) 52 #[.int .i64 0, .slice none 0 0, .slice none 0 0] := hB8.far (by show w.heap.size + 1 ≠ w1.heap.size; rw [Hs1.out]; omega) _
            have oP := (ownP.far gs (fun k hk => by cases hk; exact hB.other (by decide) (by decide))).obc
            have oQ := (own.far gs (fun k hk => by cases hk; exact hB.other (by decide) (by decide))).obc
            have hEf := hEw.set (p := ⟨w1.heap.size, 0, none⟩) hle1 (.int .i64 (-1))
            have z0 : (w12.setCell ⟨w1.heap.size, 0, none⟩ (.int .i64 (-1))).cell? ⟨w1.heap.size, 0, none⟩ = some (.int .i64 (-1)) := hBf.cell (i := 0) rfl
            have z1 : (w12.setCell ⟨w1.heap.size, 0, none⟩ (.int .i64 (-1))).cell? ⟨w1.heap.size, 1, none⟩ = some (.slice (some ⟨gp, 0, none⟩) 64 c) := hBf.cell (i := 1) rfl
            have z2 : (w12.setCell ⟨w1.heap.size, 0, none⟩ (.int .i64 (-1))).cell? ⟨w1.heap.size, 2, none⟩ = some (.slice (some ⟨gq, 0, none⟩) 4 d) := hBf.cell (i := 2) rfl
            have f0 := hB8f.frozen 0
            have x0 := hB8f.cell (i := 0) rfl
            have f1 := hB8f.frozen 1
            have x1 := hB8f.cell (i := 1) rfl
            have f2 := hB8f.frozen 2
            have x2 := hB8f.cell (i := 2) rfl
            go_wp2_with fail
            have g1 := fun (w' : World) (u : Value) (i : Nat) => grown_set w' ⟨w.heap.size + 1, i, none⟩ u
            have b1 := hB8f.set 0 (.int .i64 (-1))
            have b2 := b1.set 1 (.slice (some ⟨gp, 0, none⟩) 64 c)
            have b3 := b2.set 2 (.slice (some ⟨gq, 0, none⟩) 4 d)
            have oP3 := (((oP.far hB8f (by decide) (sig_no _ _ _ _ _ _ _) (g1 _ (.int .i64 (-1)) 0)).far b1 (by decide) (sig_no _ _ _ _ _ _ _) (g1 _ (.slice (some ⟨gp, 0, none⟩) 64 c) 1)).far b2 (by decide) (sig_no _ _ _ _ _ _ _) (g1 _ (.slice (some ⟨gq, 0, none⟩) 4 d) 2))
            have oQ3 := (((oQ.far hB8f (by decide) (sig_no _ _ _ _ _ _ _) (g1 _ (.int .i64 (-1)) 0)).far b1 (by decide) (sig_no _ _ _ _ _ _ _) (g1 _ (.slice (some ⟨gp, 0, none⟩) 64 c) 1)).far b2 (by decide) (sig_no _ _ _ _ _ _ _) (g1 _ (.slice (some ⟨gq, 0, none⟩) 4 d) 2))
            have hE3 := (((hEf.set (p := ⟨w.heap.size + 1, 0, none⟩) (Nat.le_succ _) (.int .i64 (-1))).set (p := ⟨w.heap.size + 1, 1, none⟩) (Nat.le_succ _) (.slice (some ⟨gp, 0, none⟩) 64 c)).set (p := ⟨w.heap.size + 1, 2, none⟩) (Nat.le_succ _) (.slice (some ⟨gq, 0, none⟩) 4 d))
            refine bodyPost_ret (results_cell_row rfl _ _ (w.heap.size + 1) _ _ _ _ rfl b3 Try.underlying52 rfl rfl) rfl ?_
            exact TurnPost.mk ⟨(-1), _, _, _, _, _, _, _, _, rfl, oP3.rbb, oQ3.rbb, fun h => absurd h (by decide), hE3⟩
end Go.Proofs.Ytmgnigofilkfmab

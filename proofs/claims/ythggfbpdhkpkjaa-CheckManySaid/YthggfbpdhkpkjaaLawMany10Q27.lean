/-
  sign.Decode, walked. Manifests in plain Lean: what may be one, how it is written, how it is read. Manifests in plain Lean: what is written is read again; what is read is written so; cut or longer it is none. Numbers of two bytes, and conversions. Plain theorems.
-/
import Derived.Test.YthggfbpdhkpkjaaLawMany10Q7
import Derived.Test.YthggfbpdhkpkjaaLawMany10Q26
import Derived.Test.YthggfbpdhkpkjaaLawMany10Q14
namespace Go.Proofs.Ythggfbpdhkpkjaa
set_option maxRecDepth 100000
open Go Go.RowKit
/-- the reader's state behind k hashes, and the hash that is read then -/
def someS (s : List UInt8 × Bool) : Nat → List UInt8 × Bool
  | 0 => s
  | k + 1 => (rtake (someS s k).1 (someS s k).2 32).2
def someP (s : List UInt8 × Bool) (k : Nat) : List UInt8 := (rtake (someS s k).1 (someS s k).2 32).1
theorem RdrS.row {w w' : World} {base q : Nat} {L : List UInt8} {bad : Bool} (h : RdrS w base q L bad) {b : Nat} {A : Option Addr} {n c : Nat} {vs : List Value} (own : w.ownsRow b 22 1 (.slice A n c) n vs) (g : w.grownBy w' (blk A)) : RdrS w' base q L bad := by
  obtain ⟨A', n', c', hn, hR⟩ := h
  have hne : ∀ k, blk A = some k → ∀ cs t fr, w.heap[k]? = some (.cells cs t fr) → t = 22 := by
    intro k hk cs t fr hc
    obtain ⟨cs', h1⟩ := row_type own (k := k) (by rw [ownBlock_slice]; exact hk)
    rw [h1] at hc
    injection hc with hc
    injection hc with _ hc
    exact hc.symm
  have hbA : 0 < n' → blk A' ≠ blk A := by
    intro h0 e
    cases hA : blk A with
    | none =>
      rw [hA] at e
      obtain ⟨ad, h1, _⟩ := hR.rb.cells h0
      rw [h1] at e
      cases e
    | some k =>
      rw [hA] at e
      obtain ⟨cs, fr, h1⟩ := hR.ty h0 k e
      have := hne k hA cs _ fr h1
      revert this
      decide
  refine ⟨A', n', c', hn, hR.blk.grown g ?_, hR.rb.grown g hbA, hR.ne, hR.base, fun h0 k hk => ?_⟩
  · intro e
    have := hne q e.symm _ _ _ hR.blk
    revert this
    decide
  · obtain ⟨cs, fr, h1⟩ := hR.ty h0 k hk
    exact ⟨cs, fr, (g.block k (Array.getElem?_eq_some_iff.1 h1).1 (fun e => hbA h0 (by rw [hk, e]))).trans h1⟩
theorem RdrS.blk_ {w : World} {base q : Nat} {L : List UInt8} {bad : Bool} (h : RdrS w base q L bad) : base ≤ q ∧ ∃ cs, Blk w q 115 cs ∧ ∀ (i : Nat) (x : Int), cs[i]? ≠ some (.int .u8 x) := by
  obtain ⟨A', n', c', hn, hR⟩ := h
  refine ⟨hR.base, _, hR.blk, fun i x => ?_⟩
  rcases i with _ | _ | i <;> simp
/-- a row of byte slices of the call's own, all of them of blocks at or beyond b -/
def OBE (w : World) (b : Nat) (A : Option Addr) (n c : Nat) (Ls : List (List UInt8)) : Prop :=
  ∃ vs : List Value, w.ownsRow b 22 1 (.slice A n c) n vs ∧ Ls.length = n ∧ ∀ j, j < n → ∃ B m d, vs[j]? = some (.slice B m d) ∧ RB w B m d (lb Ls j) ∧ (0 < m → blk B ≠ blk A ∧ ∀ k, blk B = some k → b ≤ k)
section
variable {w w' : World} {b n c : Nat} {A : Option Addr} {Ls : List (List UInt8)}
theorem OBE.none_ (w : World) (b : Nat) : OBE w b none 0 0 [] := ⟨[], World.ownsRow_nil w _ _ _, rfl, fun j hj => absurd hj (Nat.not_lt_zero _)⟩
theorem OBE.obc (h : OBE w b A n c Ls) : OBC w b A n c Ls := by
  obtain ⟨vs, h1, h2, h3⟩ := h
  refine ⟨vs, h1, h2, fun j hj => ?_⟩
  obtain ⟨B, m, d, h4, h5, h6⟩ := h3 j hj
  exact ⟨B, m, d, h4, h5, fun hm => (h6 hm).1⟩
theorem OBE.lt (h : OBE w b A n c Ls) {k : Nat} (hk : blk A = some k) : b ≤ k ∧ k < w.heap.size := h.obc.lt hk
theorem OBE.ext (h : OBE w b A n c Ls) (e : Ext w w') : OBE w' b A n c Ls := by
  obtain ⟨vs, h1, h2, h3⟩ := h
  refine ⟨vs, World.ownsRow.kept h1 (e.grownBy none) ?_, h2, fun j hj => ?_⟩
  · cases hb : Value.ownBlock (.slice A n c) <;> simp
  · obtain ⟨B, m, d, h4, h5, h6⟩ := h3 j hj
    exact ⟨B, m, d, h4, h5.ext e, h6⟩
theorem OBE.base {b' : Nat} (h : OBE w b A n c Ls) (hb : b' ≤ b) : OBE w b' A n c Ls := by
  obtain ⟨vs, h1, h2, h3⟩ := h
  refine ⟨vs, ownsRow_base h1 hb, h2, fun j hj => ?_⟩
  obtain ⟨B, m, d, h4, h5, h6⟩ := h3 j hj
  exact ⟨B, m, d, h4, h5, fun hm => ⟨(h6 hm).1, fun k hk => Nat.le_trans hb ((h6 hm).2 k hk)⟩⟩
theorem OBE.far (h : OBE w b A n c Ls) {g : Nat} {t : TypeId} {cs : Array Value} (hb : Blk w g t cs) (ht : t ≠ 22) (hno : ∀ (i : Nat) (x : Int), cs[i]? ≠ some (.int .u8 x)) (e : w.grownBy w' (some g)) : OBE w' b A n c Ls := by
  obtain ⟨vs, h1, h2, h3⟩ := h
  refine ⟨vs, World.ownsRow.kept h1 e (.inr (row_ne h1 hb ht)), h2, fun j hj => ?_⟩
  obtain ⟨B, m, d, h4, h5, h6⟩ := h3 j hj
  exact ⟨B, m, d, h4, h5.grown e (h5.apart5 hb hno), h6⟩
end
theorem appbe_law {ops : Array Oper} {rest : List Oper} {o : Oper} {a : Act} {Q : Exit → Act → World → Prop} {w : World} (hgd : o.guard = none) {s x : Operand} (ho : o.op = .call { callee := .builtin .append, args := #[s, x], argTypes := #[37, 37] })
    {A : Option Addr} {n c : Nat} (hs : a.eval s = .slice A n c) {ad : Addr} (hx : a.eval x = .slice (some ad) 1 1) {b : Nat} {Ls : List (List UInt8)} {B : Option Addr} {m d : Nat} {Y : List UInt8} (hcell : w.cell? (ad.add 0) = some (.slice B m d))
    (hown : OBE w b A n c Ls) (hB : RB w B m d Y) (hne : 0 < m → blk B ≠ blk A ∧ ∀ k, blk B = some k → b ≤ k) (hbase : b ≤ w.heap.size) (hnk : n + 1 ≤ 1000000)
    (h : ∀ A' c' w', OBE w' b A' (n + 1) c' (Ls ++ [Y]) → w.grownBy w' (blk A) → wpList Try.prog ops Q rest (a.put o.dst (.slice A' (n + 1) c')) w') : wpList Try.prog ops Q (o :: rest) a w := by
  obtain ⟨vs, h1, h2, h3⟩ := hown
  obtain ⟨i0, hi0, hz0, hz1, hz2⟩ := info_parts info_bb'
  obtain ⟨v', w', hrun, r1, r2, _, r4⟩ := run_append_own_at (P := Try.prog) w b 37 o.type 22 i0 (.slice none 0 0) 1 24 Try.underlying37 hi0 hz0 hz1 hz2 rfl (by decide) (.slice A n c) n vs h1 ad 1 1 [.slice B m d] rfl
    (by
      intro j u hu
      rcases j with _ | j
      · injection hu with hu
        subst hu
        exact hcell
      · cases hu) (by simp [Value.oneCell']) (small_maxLen hnk) (by omega) hbase
  obtain ⟨A', c', rfl⟩ : ∃ A' c', v' = .slice A' (n + 1) c' := by
    rcases r1.2 with ⟨_, h0⟩ | ⟨g, cap, _, rfl, _⟩
    · omega
    · exact ⟨_, cap, rfl⟩
  rw [ownBlock_slice] at r2 r4
  rw [ownBlock_slice] at r4
  have hne' : ∀ (B' : Option Addr) (m' d' : Nat) (Y' : List UInt8), RB w B' m' d' Y' → (0 < m' → blk B' ≠ blk A) → (0 < m' → blk B' ≠ blk A') := by
    intro B' m' d' Y' hb hn hm e
    rcases r4 with r4 | r4
    · exact hn hm (e.trans r4)
    · have := rb_blk_lt hb hm _ (e.trans r4)
      omega
  have hvl : vs.length = n := by have := h1.1; omega
  refine run_law hgd (v := .slice A' (n + 1) c') (w' := w') ?_ (h A' c' w' ⟨vs ++ [.slice B m d], r1, by rw [List.length_append]; simp; omega, fun j hj => ?_⟩ r2)
  · unfold execOp
    simp only [ho, resolve, invoke, builtin, Sem.run_bind, Sem.run_pure, Result.andThen_ok, List.map_toArray, List.map_cons, List.map_nil, hs, hx, hrun]
  · by_cases hjn : j < n
    · obtain ⟨B', m', d', h4, h5, h6⟩ := h3 j hjn
      refine ⟨B', m', d', by rw [List.getElem?_append_left (by omega)]; exact h4, ?_, fun hm => ⟨hne' _ _ _ _ h5 (fun hm => (h6 hm).1) hm, (h6 hm).2⟩⟩
      have e : lb (Ls ++ [Y]) j = lb Ls j := by unfold lb; simp [List.getElem?_append_left (show j < Ls.length by omega)]
      rw [e]
      exact h5.grown r2 (fun hm => (h6 hm).1)
    · obtain rfl : j = n := by omega
      refine ⟨B, m, d, by rw [List.getElem?_append_right (by omega), hvl]; simp, ?_, fun hm => ⟨hne' _ _ _ _ hB (fun hm => (hne hm).1) hm, (hne hm).2⟩⟩
      have e : lb (Ls ++ [Y]) j = Y := by unfold lb; simp [← h2]
      rw [e]
      exact hB.grown r2 (fun hm => (hne hm).1)
def SomeI (w : World) (base q n : Nat) (s : List UInt8 × Bool) (v i : Value) (wr : World) : Prop :=
  ∃ (k d : Nat) (P : Option Addr), k ≤ n ∧ i = .int .i64 k ∧ v = .slice P k d ∧ OBE wr w.heap.size P k d ((List.range k).map (someP s)) ∧ RdrS wr base q (someS s k).1 (someS s k).2 ∧ w.grownBy wr (some q)
set_option maxHeartbeats 4000000 in
theorem some_any (w : World) (base q n : Nat) (L : List UInt8) (bad : Bool) (hR : RdrS w base q L bad) (hn : n ≤ 1000) :
    Calls Try.prog 101 #[.pointer (some ⟨q, 0, none⟩), .int .i64 (n : Int)] w fun e w' => ∃ P d, e = .returned (.slice P n d) ∧ OBE w' w.heap.size P n d ((List.range n).map (someP (L, bad))) ∧ RdrS w' base q (someS (L, bad) n).1 (someS (L, bad) n).2 ∧ w.grownBy w' (some q) := by
  generalize hs : (L, bad) = s
  have hR : RdrS w base q (someS s 0).1 (someS s 0).2 := by rw [← hs]; exact hR
  clear hs
  go_enter Try.func101, Try.ntmps101
  go_wp2_with fail
  go_loopw [5, 7] (fun v i wr => SomeI w base q n s v i wr) (fun _ i _ => n - (intOf i).toNat)
  case atStart => exact ⟨0, 0, none, by omega, rfl, rfl, OBE.none_ _ _, hR, (Ext.refl w).grownBy _⟩
  case round =>
    clear hR
    obtain ⟨k, d, P, hk, rfl, rfl, own, hR, hG⟩ := hrel
    by_cases hlt : k < n
    · have hki : (k : Int) < (n : Int) := by omega
      go_wp2_with fail
      refine (rraw_any wr base q _ _ 32 hR (by omega) (by omega)).mono ?_
      rintro e w3 ⟨⟨B, m, d3, rfl, own3⟩, hR3, hG3⟩
      obtain ⟨_, cs, hBq, hno⟩ := hR.blk_
      have own2 := own.far hBq (by decide) hno hG3
      have hEa := Ext.new w3 (.cells #[.slice B m d3] 22)
      have hBa := Blk.new w3 22 #[.slice B m d3]
      have hne1 : 0 < m → blk B ≠ blk P := by
        intro hm e
        cases hB : blk B with
        | none =>
          obtain ⟨ad, h1, _⟩ := own3.rb.cells hm
          rw [h1] at hB
          cases hB
        | some b =>
          have h1 := (own3.lt hB).1
          have h2 := own.lt (e.symm.trans hB)
          omega
      have hne : 0 < m → blk B ≠ blk P ∧ ∀ k, blk B = some k → w.heap.size ≤ k := fun hm => ⟨hne1 hm, fun k hk => Nat.le_trans hG.size (own3.lt hk).1⟩
      have hR4 := hR3.later hEa
      have own4 := own2.ext hEa
      have hG4 := (hG.trans hG3).trans (hEa.grownBy _)
      go_wp2_with (refine appbe_law (b := w.heap.size) (Y := someP s k) rfl rfl rfl rfl (by rw [add_plain]; exact hBa.cell (i := 0) rfl) own4 (own3.rb.ext hEa) hne hG4.size (by omega) ?_; intro P5 d5 w5 own5 g5)
      have hR5 : RdrS w5 base q (someS s (k + 1)).1 (someS s (k + 1)).2 := by
        obtain ⟨vs, r1, _⟩ := own4
        exact hR4.row r1 g5
      have hG5 : w.grownBy w5 (some q) := ⟨g5.os.trans hG4.os, g5.tape.trans hG4.tape, g5.output.trans hG4.output, Nat.le_trans hG4.size g5.size, fun i hi hne => (g5.block i (Nat.lt_of_lt_of_le hi hG4.size) (fun e => by have := (own4.lt e.symm).1; omega)).trans (hG4.block i hi hne)⟩
      go_roundw
      case rel =>
        refine ⟨k + 1, d5, P5, by omega, by go_num, rfl, ?_, hR5, hG5⟩
        rw [range_snoc]
        exact own5
      case measure => simp [intOf]; omega
    · obtain rfl : k = n := by omega
      go_wp2_with fail
      go_ret
      exact ⟨P, d, rfl, own, hR, hG⟩
def dS1 (L : List UInt8) : List UInt8 × Bool := (rtake L false 4).2
def dS2 (L : List UInt8) : List UInt8 × Bool := someS (dS1 L) 64
def dS3 (L : List UInt8) : List UInt8 × Bool := someS (dS2 L) 4
def decX (L : List UInt8) : Int := u32i (beNum (rtake L false 4).1)
def decP (L : List UInt8) : List (List UInt8) := (List.range 64).map (someP (dS1 L))
def decQ (L : List UInt8) : List (List UInt8) := (List.range 4).map (someP (dS2 L))
noncomputable def decOK5 (L : List UInt8) : Bool := (!(dS3 L).2 && (dS3 L).1.isEmpty) && rightB (decX L) (decP L) (decQ L)
set_option maxHeartbeats 8000000 in
theorem sdecode_any (A : Option Addr) (n c : Nat) (L : List UInt8) (w : World) (hr : RB w A n c L) (hn : n ≤ 140737488355328) :
    Calls Try.prog 73 #[.slice A n c] w fun e w' =>
      (decOK5 L = true → ∃ P d Q d', e = .returned (.tuple #[.agg #[.int .i64 (decX L), .slice P 64 d, .slice Q 4 d'], .int .i64 0]) ∧ OBE w' w.heap.size P 64 d (decP L) ∧ OBE w' w.heap.size Q 4 d' (decQ L)) ∧
      (decOK5 L = false → e = .returned (.tuple #[.agg #[.int .i64 0, .slice none 0 0, .slice none 0 0], .int .i64 12])) ∧ Ext w w' := by
  have e64 : ((64 : Nat) : Int) = 64 := rfl
  have e4 : ((4 : Nat) : Int) = 4 := rfl
  have hcx := fun w' => conv_u32_i64' (P := Try.prog) (w := w') Try.underlying101 Try.underlying3 (beNum (rtake L false 4).1)
  go_enter Try.func73, Try.ntmps73
  have hE0 := Ext.new w (.cells #[.int .i64 0, .slice none 0 0, .slice none 0 0] 39)
  have hB0 := Blk.new w 39 #[.int .i64 0, .slice none 0 0, .slice none 0 0]
  have hs0 : (w.alloc (.cells #[.int .i64 0, .slice none 0 0, .slice none 0 0] 39)).heap.size = w.heap.size + 1 := World.size_alloc _ _
  go_wp2_with fail
  refine (rread_any A n c L _ (hr.ext hE0) hn).mono ?_
  rintro e w1 ⟨q, rfl, hR1, hE1⟩
  rw [hs0] at hR1
  have hE01 := hE0.trans hE1
  have hB1 := hB0.ext hE1
  have hqb := hR1.blk_.1
  clear hE0 hE1 hB0 hr hs0
  go_wp2_with fail
  refine (rnum_any w1 _ q L false hR1).mono ?_
  rintro e w2 ⟨rfl, hR2, hG2⟩
  have hB2 := hB1.grown hG2 (by intro e; injection e with e; omega)
  have hE2 := hE01.then_grown hG2 (by intro k hk; cases hk; omega)
  have hR2 : RdrS w2 (w.heap.size + 1) q (dS1 L).1 (dS1 L).2 := hR2
  have hs1 := some_any w2 _ q 64 _ _ hR2 (by omega)
  rw [e64] at hs1
  have Hs1 := Lib.hid hs1
  have hbP := hE2.size
  clear hs1 hR1 hB1 hE01 hG2 hR2
  go_wp2_with fail
  refine Hs1.out.mono ?_
  rintro e w3 ⟨P, d, rfl, oP, hR3, hG3⟩
  clear Hs1
  have hB3 := hB2.grown hG3 (by intro e; injection e with e; omega)
  have hE3 := hE2.then_grown hG3 (by intro k hk; cases hk; omega)
  have hR3 : RdrS w3 (w.heap.size + 1) q (dS2 L).1 (dS2 L).2 := hR3
  have oP : OBE w3 w2.heap.size P 64 d (decP L) := oP
  have hs2 := some_any w3 _ q 4 _ _ hR3 (by omega)
  rw [e4] at hs2
  have Hs2 := Lib.hid hs2
  have hbQ := hE3.size
  obtain ⟨_, cs3, hBq3, hno3⟩ := hR3.blk_
  clear hs2 hB2 hE2 hG3 hR3
  go_wp2_with fail
  refine Hs2.out.mono ?_
  rintro e w4 ⟨Q, d', rfl, oQ, hR4, hG4⟩
  clear Hs2 hcx
  have hB4 := hB3.grown hG4 (by intro e; injection e with e; omega)
  have hE4 := hE3.then_grown hG4 (by intro k hk; cases hk; omega)
  have hR4 : RdrS w4 (w.heap.size + 1) q (dS3 L).1 (dS3 L).2 := hR4
  have oQ : OBE w4 w3.heap.size Q 4 d' (decQ L) := oQ
  have oP := oP.far hBq3 (by decide) hno3 hG4
  clear hB3 hE3 hG4 hBq3 hno3
  have hX : u32i (beNum (rtake L false 4).1) = decX L := rfl
  rw [hX]
  clear hX
  have hE5 := Ext.new w4 (.cells #[.int .i64 (decX L), .slice P 64 d, .slice Q 4 d'] 39)
  have hB5 := Blk.new w4 39 #[.int .i64 (decX L), .slice P 64 d, .slice Q 4 d']
  have hre := rend_any _ _ q _ _ (hR4.later hE5)
  have hok : decOK5 L = ((!(dS3 L).2 && (dS3 L).1.isEmpty) && rightB (decX L) (decP L) (decQ L)) := rfl
  obtain ⟨be, hbe⟩ : ∃ be, be = (!(dS3 L).2 && (dS3 L).1.isEmpty) := ⟨_, rfl⟩
  rw [← hbe] at hre hok
  have Hre := Lib.hid hre
  have Hok := Lib.hid hok
  have oP := oP.ext hE5
  have oQ := oQ.ext hE5
  have hB6 := hB4.ext hE5
  have hE6 := hE4.trans hE5
  clear hre hok hbe hR4 hB4 hE4 hE5
  generalize hx : decX L = x at *
  generalize hPs : decP L = Ps at *
  generalize hQs : decQ L = Qs at *
  have Hx := Lib.hid hx
  have HPs := Lib.hid hPs
  have HQs := Lib.hid hQs
  clear hx hPs hQs
  have fin : ∀ (wf : World), Blk wf w.heap.size 39 #[.int .i64 0, .slice none 0 0, .slice none 0 0] → Ext w wf → Blk (((wf.setCell ⟨w.heap.size, 0, none⟩ (.int .i64 0)).setCell ⟨w.heap.size, 1, none⟩ (.slice none 0 0)).setCell ⟨w.heap.size, 2, none⟩ (.slice none 0 0)) w.heap.size 39 #[.int .i64 0, .slice none 0 0, .slice none 0 0] ∧ Ext w (((wf.setCell ⟨w.heap.size, 0, none⟩ (.int .i64 0)).setCell ⟨w.heap.size, 1, none⟩ (.slice none 0 0)).setCell ⟨w.heap.size, 2, none⟩ (.slice none 0 0)) :=
    fun wf hb he => ⟨((hb.set 0 _).set 1 _).set 2 _, ((he.set (p := ⟨w.heap.size, 0, none⟩) (Nat.le_refl _) _).set (p := ⟨w.heap.size, 1, none⟩) (Nat.le_refl _) _).set (p := ⟨w.heap.size, 2, none⟩) (Nat.le_refl _) _⟩
  have Fin := Lib.hid fin
  clear fin
  cases be with
  | false =>
    have f0 := hB6.frozen 0
    have f1 := hB6.frozen 1
    have f2 := hB6.frozen 2
    have x0 := hB6.cell (i := 0) rfl
    have x1 := hB6.cell (i := 1) rfl
    have x2 := hB6.cell (i := 2) rfl
    go_wp2_with fail
    refine Hre.out.mono ?_
    rintro e w5 ⟨rfl, rfl⟩
    clear Hre
    go_wp2_with fail
    obtain ⟨b3, hEf⟩ := Fin.out _ hB6 hE6
    refine bodyPost_ret (results_sig rfl _ _ w.heap.size _ _ _ rfl b3 Try.underlying39 rfl rfl) rfl ?_
    exact ⟨fun h => absurd (Hok.out.symm.trans h) (by simp), fun _ => rfl, hEf⟩
  | true =>
    have y0 := hB5.cell (i := 0) (v := .int .i64 x) rfl
    have y1 := hB5.cell (i := 1) (v := .slice P 64 d) rfl
    have y2 := hB5.cell (i := 2) (v := .slice Q 4 d') rfl
    go_wp2_with fail
    refine Hre.out.mono ?_
    rintro e w5 ⟨rfl, rfl⟩
    clear Hre
    go_wp2_with fail
    refine (sright_any x P Q 64 d 4 d' Ps Qs _ oP.obc.rbb oQ.obc.rbb).mono ?_
    rintro e w7 ⟨rfl, hE7⟩
    have oP := oP.ext hE7
    have oQ := oQ.ext hE7
    have hB7 := hB6.ext hE7
    have hB57 := hB5.ext hE7
    have hE07 := hE6.trans hE7
    clear y0 y1 y2 hB6 hE6 hB5
    have f0 := hB7.frozen 0
    have f1 := hB7.frozen 1
    have f2 := hB7.frozen 2
    have x0 := hB7.cell (i := 0) rfl
    have x1 := hB7.cell (i := 1) rfl
    have x2 := hB7.cell (i := 2) rfl
    have y0 := hB57.cell (i := 0) (v := .int .i64 x) rfl
    have y1 := hB57.cell (i := 1) (v := .slice P 64 d) rfl
    have y2 := hB57.cell (i := 2) (v := .slice Q 4 d') rfl
    obtain ⟨rv, hrv⟩ : ∃ rv, rv = rightB x Ps Qs := ⟨_, rfl⟩
    rw [← hrv] at Hok ⊢
    clear hrv
    cases rv with
    | false =>
      go_wp2_with fail
      obtain ⟨b3, hEf⟩ := Fin.out _ hB7 hE07
      refine bodyPost_ret (results_sig rfl _ _ w.heap.size _ _ _ rfl b3 Try.underlying39 rfl rfl) rfl ?_
      exact ⟨fun h => absurd (Hok.out.symm.trans h) (by simp), fun _ => rfl, hEf⟩
    | true =>
      go_wp2_with fail
      have g1 := fun (w' : World) (u : Value) (i : Nat) => grown_set w' ⟨w.heap.size, i, none⟩ u
      have b1 := hB7.set 0 (.int .i64 x)
      have b2 := b1.set 1 (.slice P 64 d)
      have b3 := b2.set 2 (.slice Q 4 d')
      have oP3 := ((oP.far hB7 (by decide) (sig_no _ _ _ _ _ _ _) (g1 _ (.int .i64 x) 0)).far b1 (by decide) (sig_no _ _ _ _ _ _ _) (g1 _ (.slice P 64 d) 1)).far b2 (by decide) (sig_no _ _ _ _ _ _ _) (g1 _ (.slice Q 4 d') 2)
      have oQ3 := ((oQ.far hB7 (by decide) (sig_no _ _ _ _ _ _ _) (g1 _ (.int .i64 x) 0)).far b1 (by decide) (sig_no _ _ _ _ _ _ _) (g1 _ (.slice P 64 d) 1)).far b2 (by decide) (sig_no _ _ _ _ _ _ _) (g1 _ (.slice Q 4 d') 2)
      have hEf := ((hE07.set (p := ⟨w.heap.size, 0, none⟩) (Nat.le_refl _) (.int .i64 x)).set (p := ⟨w.heap.size, 1, none⟩) (Nat.le_refl _) (.slice P 64 d)).set (p := ⟨w.heap.size, 2, none⟩) (Nat.le_refl _) (.slice Q 4 d')
      refine bodyPost_ret (results_sig rfl _ _ w.heap.size _ _ _ rfl b3 Try.underlying39 rfl rfl) rfl ?_
      rw [Hx.out, HPs.out, HQs.out]
      exact ⟨fun _ => ⟨P, d, Q, d', rfl, oP3.base hbP, oQ3.base hbQ⟩, fun h => absurd (Hok.out.symm.trans h) (by simp), hEf⟩
end Go.Proofs.Ythggfbpdhkpkjaa
namespace Go.Proofs.Ythggfbpdhkpkjaa
set_option maxRecDepth 100000
structure Man where
  name : List UInt8
  ver : UInt32
  fw : List UInt8
  notes : List UInt8
/-- the reader's steps: mark, name, version, firmware, notes, what is left -/
structure Dec where
  first : UInt8
  man : Man
  left : List UInt8
  bad : Bool
end Go.Proofs.Ythggfbpdhkpkjaa
namespace Go.Proofs.Ythggfbpdhkpkjaa
set_option maxRecDepth 100000
theorem or8_toNat (x : UInt32) (c : UInt8) : (shl x 8 ||| c.toUInt32).toNat = x.toNat * 256 % 4294967296 + c.toNat := by
  rw [UInt32.toNat_or, shl_toNat, UInt8.toNat_toUInt32]
  have hc := c.toNat_lt
  have e : x.toNat * 2 ^ 8 % 4294967296 = 2 ^ 8 * (x.toNat % 16777216) := by omega
  have e2 := Nat.two_pow_add_eq_or_of_lt (i := 8) (b := c.toNat) (by omega) (x.toNat % 16777216)
  have e3 : x.toNat * 256 % 4294967296 = 2 ^ 8 * (x.toNat % 16777216) := by omega
  rw [e3, e2]
theorem beNum2 (a b : UInt8) : (beNum [a, b]).toNat = a.toNat * 256 + b.toNat := by
  have h1 := or8_toNat (shl 0 8 ||| a.toUInt32) b
  have h2 := or8_toNat 0 a
  have h3 := a.toNat_lt
  have e : beNum [a, b] = (shl (shl 0 8 ||| a.toUInt32) 8 ||| b.toUInt32) := rfl
  have h0 : (0 : UInt32).toNat = 0 := rfl
  rw [e, h1, h2, h0]
  omega
theorem beNum4 (a b c d : UInt8) : (beNum [a, b, c, d]).toNat = ((a.toNat * 256 + b.toNat) * 256 + c.toNat) * 256 + d.toNat := by
  have h1 := or8_toNat (beNum [a, b, c]) d
  have h2 := or8_toNat (beNum [a, b]) c
  have h3 := beNum2 a b
  have ha := a.toNat_lt
  have hb := b.toNat_lt
  have hc := c.toNat_lt
  have e : beNum [a, b, c, d] = (shl (beNum [a, b, c]) 8 ||| d.toUInt32) := rfl
  have e2 : beNum [a, b, c] = (shl (beNum [a, b]) 8 ||| c.toUInt32) := rfl
  rw [e, h1, e2, h2, h3]
  omega
theorem beBytes4 (x : UInt32) : beBytes x 4 = [(shr x 24).toUInt8, (shr x 16).toUInt8, (shr x 8).toUInt8, (shr x 0).toUInt8] := rfl
theorem byteAt (x : UInt32) (k : Nat) : (shr x k).toUInt8.toNat = x.toNat / 2 ^ k % 256 := by
  rw [UInt32.toNat_toUInt8, shr_toNat]
theorem beNum_beBytes4 (x : UInt32) : beNum (beBytes x 4) = x := by
  rw [← UInt32.toNat_inj, beBytes4, beNum4, byteAt _ _, byteAt _ _, byteAt _ _, byteAt _ _]
  have := x.toNat_lt
  omega
theorem len1 {l : List UInt8} (h : l.length = 1) : ∃ a, l = [a] := by
  match l, h with
  | [a], _ => exact ⟨a, rfl⟩
end Go.Proofs.Ythggfbpdhkpkjaa
namespace Go.Proofs.Ythggfbpdhkpkjaa
set_option maxRecDepth 100000
open Go Go.RowKit
theorem shr_zero (x : UInt32) : shr x 0 = x := by rw [← UInt32.toNat_inj, shr_toNat]; simp
end Go.Proofs.Ythggfbpdhkpkjaa

/-
  sign.Decode, walked. ref5.Decode, walked. slices.EqualFunc of byte slices and sign.Same, walked. law5.SignNumbers, walked. What is written as a signature is read as that one; what is read is what the document reads. Plain theorems.
-/
import Derived.Test.YtmgnigofilkfmabWireG
import Derived.Test.YtmgnigofilkfmabEncG
import Derived.Test.YtmgnigofilkfmabManG
import Derived.Test.YtmgnigofilkfmabChain
import Derived.Test.YtmgnigofilkfmabSTurned
import Derived.Test.YtmgnigofilkfmabSTells
namespace Go.Proofs.Ytmgnigofilkfmab
set_option maxRecDepth 100000
open Go Go.RowKit
/-- the reader's state behind k hashes, and the hash that is read then -/
def someS (s : List UInt8 × Bool) : Nat → List UInt8 × Bool
  | 0 => s
  | k + 1 => (rtake (someS s k).1 (someS s k).2 32).2
def someP (s : List UInt8 × Bool) (k : Nat) : List UInt8 := (rtake (someS s k).1 (someS s k).2 32).1
theorem RdrS.row {w w' : World} {base q : Nat} {L : List UInt8} {bad : Bool} (h : RdrS w base q L bad) {b : Nat} {A : Option Addr} {n c : Nat} {vs : List Value} (own : w.ownsRow b 22 1 (.slice A n c) n vs) (g : w.grownBy w' (blk A)) : RdrS w' base q L bad := by
  obtain ⟨A', n', c', hn, hR⟩ := h
  have hne : ∀ k, blk A = some k → ∀ cs t fr, w.heap[k]? = some (.cells cs t fr) → t = 22 := by
    intro k hk cs t fr hc
    obtain ⟨cs', h1⟩ := row_type own (k := k) (by rw [ownBlock_slice]; exact hk)
    rw [h1] at hc
    injection hc with hc
    injection hc with _ hc
    exact hc.symm
  have hbA : 0 < n' → blk A' ≠ blk A := by
    intro h0 e
    cases hA : blk A with
    | none =>
      rw [hA] at e
      obtain ⟨ad, h1, _⟩ := hR.rb.cells h0
      rw [h1] at e
      cases e
    | some k =>
      rw [hA] at e
      obtain ⟨cs, fr, h1⟩ := hR.ty h0 k e
      have := hne k hA cs _ fr h1
      revert this
      decide
  refine ⟨A', n', c', hn, hR.blk.grown g ?_, hR.rb.grown g hbA, hR.ne, hR.base, fun h0 k hk => ?_⟩
  · intro e
    have := hne q e.symm _ _ _ hR.blk
    revert this
    decide
  · obtain ⟨cs, fr, h1⟩ := hR.ty h0 k hk
    exact ⟨cs, fr, (g.block k (Array.getElem?_eq_some_iff.1 h1).1 (fun e => hbA h0 (by rw [hk, e]))).trans h1⟩
theorem RdrS.blk_ {w : World} {base q : Nat} {L : List UInt8} {bad : Bool} (h : RdrS w base q L bad) : base ≤ q ∧ ∃ cs, Blk w q 105 cs ∧ ∀ (i : Nat) (x : Int), cs[i]? ≠ some (.int .u8 x) := by
  obtain ⟨A', n', c', hn, hR⟩ := h
  refine ⟨hR.base, _, hR.blk, fun i x => ?_⟩
  rcases i with _ | _ | i <;> simp
/-- a row of byte slices of the call's own, all of them of blocks at or beyond b -/
def OBE (w : World) (b : Nat) (A : Option Addr) (n c : Nat) (Ls : List (List UInt8)) : Prop :=
  ∃ vs : List Value, w.ownsRow b 22 1 (.slice A n c) n vs ∧ Ls.length = n ∧ ∀ j, j < n → ∃ B m d, vs[j]? = some (.slice B m d) ∧ RB w B m d (lb Ls j) ∧ (0 < m → blk B ≠ blk A ∧ ∀ k, blk B = some k → b ≤ k)
section
variable {w w' : World} {b n c : Nat} {A : Option Addr} {Ls : List (List UInt8)}
theorem OBE.none_ (w : World) (b : Nat) : OBE w b none 0 0 [] := ⟨[], World.ownsRow_nil w _ _ _, rfl, fun j hj => absurd hj (Nat.not_lt_zero _)⟩
theorem OBE.obc (h : OBE w b A n c Ls) : OBC w b A n c Ls := by
  obtain ⟨vs, h1, h2, h3⟩ := h
  refine ⟨vs, h1, h2, fun j hj => ?_⟩
  obtain ⟨B, m, d, h4, h5, h6⟩ := h3 j hj
  exact ⟨B, m, d, h4, h5, fun hm => (h6 hm).1⟩
theorem OBE.lt (h : OBE w b A n c Ls) {k : Nat} (hk : blk A = some k) : b ≤ k ∧ k < w.heap.size := h.obc.lt hk
theorem OBE.ext (h : OBE w b A n c Ls) (e : Ext w w') : OBE w' b A n c Ls := by
  obtain ⟨vs, h1, h2, h3⟩ := h
  refine ⟨vs, World.ownsRow.kept h1 (e.grownBy none) ?_, h2, fun j hj => ?_⟩
  · cases hb : Value.ownBlock (.slice A n c) <;> simp
  · obtain ⟨B, m, d, h4, h5, h6⟩ := h3 j hj
    exact ⟨B, m, d, h4, h5.ext e, h6⟩
theorem OBE.base {b' : Nat} (h : OBE w b A n c Ls) (hb : b' ≤ b) : OBE w b' A n c Ls := by
  obtain ⟨vs, h1, h2, h3⟩ := h
  refine ⟨vs, ownsRow_base h1 hb, h2, fun j hj => ?_⟩
  obtain ⟨B, m, d, h4, h5, h6⟩ := h3 j hj
  exact ⟨B, m, d, h4, h5, fun hm => ⟨(h6 hm).1, fun k hk => Nat.le_trans hb ((h6 hm).2 k hk)⟩⟩
theorem OBE.far (h : OBE w b A n c Ls) {g : Nat} {t : TypeId} {cs : Array Value} (hb : Blk w g t cs) (ht : t ≠ 22) (hno : ∀ (i : Nat) (x : Int), cs[i]? ≠ some (.int .u8 x)) (e : w.grownBy w' (some g)) : OBE w' b A n c Ls := by
  obtain ⟨vs, h1, h2, h3⟩ := h
  refine ⟨vs, World.ownsRow.kept h1 e (.inr (row_ne h1 hb ht)), h2, fun j hj => ?_⟩
  obtain ⟨B, m, d, h4, h5, h6⟩ := h3 j hj
  exact ⟨B, m, d, h4, h5.grown e (h5.apart5 hb hno), h6⟩
theorem OBE.low (h : OBE w b A n c Ls) {row : Option Nat} (e : w.grownBy w' row) (hr : ∀ k, row = some k → k < b) : OBE w' b A n c Ls := by
  obtain ⟨vs, h1, h2, h3⟩ := h
  refine ⟨vs, World.ownsRow.kept h1 e ?_, h2, fun j hj => ?_⟩
  · cases row with
    | none => cases hb : Value.ownBlock (.slice A n c) <;> simp
    | some k => exact .inr (fun e' => by have := hr k rfl; have := (World.ownsRow.lt h1 k e').1; omega)
  · obtain ⟨B, m, d, h4, h5, h6⟩ := h3 j hj
    refine ⟨B, m, d, h4, h5.grown e (fun hm e' => ?_), h6⟩
    cases row with
    | none =>
      obtain ⟨ad, h7, _⟩ := h5.cells hm
      rw [h7] at e'
      cases e'
    | some k => have := hr k rfl; have := (h6 hm).2 k e'; omega
end
theorem appbe_law {ops : Array Oper} {rest : List Oper} {o : Oper} {a : Act} {Q : Exit → Act → World → Prop} {w : World} (hgd : o.guard = none) {s x : Operand} (ho : o.op = .call { callee := .builtin .append, args := #[s, x], argTypes := #[50, 50] })
    {A : Option Addr} {n c : Nat} (hs : a.eval s = .slice A n c) {ad : Addr} (hx : a.eval x = .slice (some ad) 1 1) {b : Nat} {Ls : List (List UInt8)} {B : Option Addr} {m d : Nat} {Y : List UInt8} (hcell : w.cell? (ad.add 0) = some (.slice B m d))
    (hown : OBE w b A n c Ls) (hB : RB w B m d Y) (hne : 0 < m → blk B ≠ blk A ∧ ∀ k, blk B = some k → b ≤ k) (hbase : b ≤ w.heap.size) (hnk : n + 1 ≤ 1000000)
    (h : ∀ A' c' w', OBE w' b A' (n + 1) c' (Ls ++ [Y]) → w.grownBy w' (blk A) → wpList Try.prog ops Q rest (a.put o.dst (.slice A' (n + 1) c')) w') : wpList Try.prog ops Q (o :: rest) a w := by
  obtain ⟨vs, h1, h2, h3⟩ := hown
  obtain ⟨i0, hi0, hz0, hz1, hz2⟩ := info_parts info_bb'
  obtain ⟨v', w', hrun, r1, r2, _, r4⟩ := run_append_own_at (P := Try.prog) w b 50 o.type 22 i0 (.slice none 0 0) 1 24 Try.underlying50 hi0 hz0 hz1 hz2 rfl (by decide) (.slice A n c) n vs h1 ad 1 1 [.slice B m d] rfl
    (by
      intro j u hu
      rcases j with _ | j
      · injection hu with hu
        subst hu
        exact hcell
      · cases hu) (by simp [Value.oneCell']) (small_maxLen hnk) (by omega) hbase
  obtain ⟨A', c', rfl⟩ : ∃ A' c', v' = .slice A' (n + 1) c' := by
    rcases r1.2 with ⟨_, h0⟩ | ⟨g, cap, _, rfl, _⟩
    · omega
    · exact ⟨_, cap, rfl⟩
  rw [ownBlock_slice] at r2 r4
  rw [ownBlock_slice] at r4
  have hne' : ∀ (B' : Option Addr) (m' d' : Nat) (Y' : List UInt8), RB w B' m' d' Y' → (0 < m' → blk B' ≠ blk A) → (0 < m' → blk B' ≠ blk A') := by
    intro B' m' d' Y' hb hn hm e
    rcases r4 with r4 | r4
    · exact hn hm (e.trans r4)
    · have := rb_blk_lt hb hm _ (e.trans r4)
      omega
  have hvl : vs.length = n := by have := h1.1; omega
  refine run_law hgd (v := .slice A' (n + 1) c') (w' := w') ?_ (h A' c' w' ⟨vs ++ [.slice B m d], r1, by rw [List.length_append]; simp; omega, fun j hj => ?_⟩ r2)
  · unfold execOp
    simp only [ho, resolve, invoke, builtin, Sem.run_bind, Sem.run_pure, Result.andThen_ok, List.map_toArray, List.map_cons, List.map_nil, hs, hx, hrun]
  · by_cases hjn : j < n
    · obtain ⟨B', m', d', h4, h5, h6⟩ := h3 j hjn
      refine ⟨B', m', d', by rw [List.getElem?_append_left (by omega)]; exact h4, ?_, fun hm => ⟨hne' _ _ _ _ h5 (fun hm => (h6 hm).1) hm, (h6 hm).2⟩⟩
      have e : lb (Ls ++ [Y]) j = lb Ls j := by unfold lb; simp [List.getElem?_append_left (show j < Ls.length by omega)]
      rw [e]
      exact h5.grown r2 (fun hm => (h6 hm).1)
    · obtain rfl : j = n := by omega
      refine ⟨B, m, d, by rw [List.getElem?_append_right (by omega), hvl]; simp, ?_, fun hm => ⟨hne' _ _ _ _ hB (fun hm => (hne hm).1) hm, (hne hm).2⟩⟩
      have e : lb (Ls ++ [Y]) j = Y := by unfold lb; simp [← h2]
      rw [e]
      exact hB.grown r2 (fun hm => (hne hm).1)
def SomeI (w : World) (base q n : Nat) (s : List UInt8 × Bool) (v i : Value) (wr : World) : Prop :=
  ∃ (k d : Nat) (P : Option Addr), k ≤ n ∧ i = .int .i64 k ∧ v = .slice P k d ∧ OBE wr w.heap.size P k d ((List.range k).map (someP s)) ∧ RdrS wr base q (someS s k).1 (someS s k).2 ∧ w.grownBy wr (some q)
set_option maxHeartbeats 4000000 in
theorem some_any (w : World) (base q n : Nat) (L : List UInt8) (bad : Bool) (hR : RdrS w base q L bad) (hn : n ≤ 1000) :
    Calls Try.prog 80 #[.pointer (some ⟨q, 0, none⟩), .int .i64 (n : Int)] w fun e w' => ∃ P d, e = .returned (.slice P n d) ∧ OBE w' w.heap.size P n d ((List.range n).map (someP (L, bad))) ∧ RdrS w' base q (someS (L, bad) n).1 (someS (L, bad) n).2 ∧ w.grownBy w' (some q) := by
  generalize hs : (L, bad) = s
  have hR : RdrS w base q (someS s 0).1 (someS s 0).2 := by rw [← hs]; exact hR
  clear hs
  go_enter Try.func80, Try.ntmps80
  go_wp2_with fail
  go_loopw [5, 7] (fun v i wr => SomeI w base q n s v i wr) (fun _ i _ => n - (intOf i).toNat)
  case atStart => exact ⟨0, 0, none, by omega, rfl, rfl, OBE.none_ _ _, hR, (Ext.refl w).grownBy _⟩
  case round =>
    clear hR
    obtain ⟨k, d, P, hk, rfl, rfl, own, hR, hG⟩ := hrel
    by_cases hlt : k < n
    · have hki : (k : Int) < (n : Int) := by omega
      go_wp2_with fail
      refine (rraw_any wr base q _ _ 32 hR (by omega) (by omega)).mono ?_
      rintro e w3 ⟨⟨B, m, d3, rfl, own3⟩, hR3, hG3⟩
      obtain ⟨_, cs, hBq, hno⟩ := hR.blk_
      have own2 := own.far hBq (by decide) hno hG3
      have hEa := Ext.new w3 (.cells #[.slice B m d3] 22)
      have hBa := Blk.new w3 22 #[.slice B m d3]
      have hne1 : 0 < m → blk B ≠ blk P := by
        intro hm e
        cases hB : blk B with
        | none =>
          obtain ⟨ad, h1, _⟩ := own3.rb.cells hm
          rw [h1] at hB
          cases hB
        | some b =>
          have h1 := (own3.lt hB).1
          have h2 := own.lt (e.symm.trans hB)
          omega
      have hne : 0 < m → blk B ≠ blk P ∧ ∀ k, blk B = some k → w.heap.size ≤ k := fun hm => ⟨hne1 hm, fun k hk => Nat.le_trans hG.size (own3.lt hk).1⟩
      have hR4 := hR3.later hEa
      have own4 := own2.ext hEa
      have hG4 := (hG.trans hG3).trans (hEa.grownBy _)
      go_wp2_with (refine appbe_law (b := w.heap.size) (Y := someP s k) rfl rfl rfl rfl (by rw [add_plain]; exact hBa.cell (i := 0) rfl) own4 (own3.rb.ext hEa) hne hG4.size (by omega) ?_; intro P5 d5 w5 own5 g5)
      have hR5 : RdrS w5 base q (someS s (k + 1)).1 (someS s (k + 1)).2 := by
        obtain ⟨vs, r1, _⟩ := own4
        exact hR4.row r1 g5
      have hG5 : w.grownBy w5 (some q) := ⟨g5.os.trans hG4.os, g5.tape.trans hG4.tape, g5.output.trans hG4.output, Nat.le_trans hG4.size g5.size, fun i hi hne => (g5.block i (Nat.lt_of_lt_of_le hi hG4.size) (fun e => by have := (own4.lt e.symm).1; omega)).trans (hG4.block i hi hne)⟩
      go_roundw
      case rel =>
        refine ⟨k + 1, d5, P5, by omega, by go_num, rfl, ?_, hR5, hG5⟩
        rw [range_snoc]
        exact own5
      case measure => simp [intOf]; omega
    · obtain rfl : k = n := by omega
      go_wp2_with fail
      go_ret
      exact ⟨P, d, rfl, own, hR, hG⟩
def dS1 (L : List UInt8) : List UInt8 × Bool := (rtake L false 4).2
def dS2 (L : List UInt8) : List UInt8 × Bool := someS (dS1 L) 64
def dS3 (L : List UInt8) : List UInt8 × Bool := someS (dS2 L) 4
def decX (L : List UInt8) : Int := u32i (beNum (rtake L false 4).1)
def decP (L : List UInt8) : List (List UInt8) := (List.range 64).map (someP (dS1 L))
def decQ (L : List UInt8) : List (List UInt8) := (List.range 4).map (someP (dS2 L))
noncomputable def decOK5 (L : List UInt8) : Bool := (!(dS3 L).2 && (dS3 L).1.isEmpty) && rightB (decX L) (decP L) (decQ L)
set_option maxHeartbeats 8000000 in
theorem sdecode_any (A : Option Addr) (n c : Nat) (L : List UInt8) (w : World) (hr : RB w A n c L) (hn : n ≤ 140737488355328) :
    Calls Try.prog 42 #[.slice A n c] w fun e w' =>
      (decOK5 L = true → ∃ P d Q d', e = .returned (.tuple #[.agg #[.int .i64 (decX L), .slice P 64 d, .slice Q 4 d'], .int .i64 0]) ∧ OBE w' w.heap.size P 64 d (decP L) ∧ OBE w' w.heap.size Q 4 d' (decQ L)) ∧
      (decOK5 L = false → e = .returned (.tuple #[.agg #[.int .i64 0, .slice none 0 0, .slice none 0 0], .int .i64 12])) ∧ Ext w w' := by
  have e64 : ((64 : Nat) : Int) = 64 := rfl
  have e4 : ((4 : Nat) : Int) = 4 := rfl
  have hcx := fun w' => conv_u32_i64' (P := Try.prog) (w := w') Try.underlying25 Try.underlying3 (beNum (rtake L false 4).1)
  go_enter Try.func42, Try.ntmps42
  have hE0 := Ext.new w (.cells #[.int .i64 0, .slice none 0 0, .slice none 0 0] 52)
  have hB0 := Blk.new w 52 #[.int .i64 0, .slice none 0 0, .slice none 0 0]
  have hs0 : (w.alloc (.cells #[.int .i64 0, .slice none 0 0, .slice none 0 0] 52)).heap.size = w.heap.size + 1 := World.size_alloc _ _
  go_wp2_with fail
  refine (rread_any A n c L _ (hr.ext hE0) hn).mono ?_
  rintro e w1 ⟨q, rfl, hR1, hE1⟩
  rw [hs0] at hR1
  have hE01 := hE0.trans hE1
  have hB1 := hB0.ext hE1
  have hqb := hR1.blk_.1
  clear hE0 hE1 hB0 hr hs0
  go_wp2_with fail
  refine (rnum_any w1 _ q L false hR1).mono ?_
  rintro e w2 ⟨rfl, hR2, hG2⟩
  have hB2 := hB1.grown hG2 (by intro e; injection e with e; omega)
  have hE2 := hE01.then_grown hG2 (by intro k hk; cases hk; omega)
  have hR2 : RdrS w2 (w.heap.size + 1) q (dS1 L).1 (dS1 L).2 := hR2
  have hs1 := some_any w2 _ q 64 _ _ hR2 (by omega)
  rw [e64] at hs1
  have Hs1 := Lib.hid hs1
  have hbP := hE2.size
  clear hs1 hR1 hB1 hE01 hG2 hR2
  go_wp2_with fail
  refine Hs1.out.mono ?_
  rintro e w3 ⟨P, d, rfl, oP, hR3, hG3⟩
  clear Hs1
  have hB3 := hB2.grown hG3 (by intro e; injection e with e; omega)
  have hE3 := hE2.then_grown hG3 (by intro k hk; cases hk; omega)
  have hR3 : RdrS w3 (w.heap.size + 1) q (dS2 L).1 (dS2 L).2 := hR3
  have oP : OBE w3 w2.heap.size P 64 d (decP L) := oP
  have hs2 := some_any w3 _ q 4 _ _ hR3 (by omega)
  rw [e4] at hs2
  have Hs2 := Lib.hid hs2
  have hbQ := hE3.size
  obtain ⟨_, cs3, hBq3, hno3⟩ := hR3.blk_
  clear hs2 hB2 hE2 hG3 hR3
  go_wp2_with fail
  refine Hs2.out.mono ?_
  rintro e w4 ⟨Q, d', rfl, oQ, hR4, hG4⟩
  clear Hs2 hcx
  have hB4 := hB3.grown hG4 (by intro e; injection e with e; omega)
  have hE4 := hE3.then_grown hG4 (by intro k hk; cases hk; omega)
  have hR4 : RdrS w4 (w.heap.size + 1) q (dS3 L).1 (dS3 L).2 := hR4
  have oQ : OBE w4 w3.heap.size Q 4 d' (decQ L) := oQ
  have oP := oP.far hBq3 (by decide) hno3 hG4
  clear hB3 hE3 hG4 hBq3 hno3
  have hX : u32i (beNum (rtake L false 4).1) = decX L := rfl
  rw [hX]
  clear hX
  have hE5 := Ext.new w4 (.cells #[.int .i64 (decX L), .slice P 64 d, .slice Q 4 d'] 52)
  have hB5 := Blk.new w4 52 #[.int .i64 (decX L), .slice P 64 d, .slice Q 4 d']
  have hre := rend_any _ _ q _ _ (hR4.later hE5)
  have hok : decOK5 L = ((!(dS3 L).2 && (dS3 L).1.isEmpty) && rightB (decX L) (decP L) (decQ L)) := rfl
  obtain ⟨be, hbe⟩ : ∃ be, be = (!(dS3 L).2 && (dS3 L).1.isEmpty) := ⟨_, rfl⟩
  rw [← hbe] at hre hok
  have Hre := Lib.hid hre
  have Hok := Lib.hid hok
  have oP := oP.ext hE5
  have oQ := oQ.ext hE5
  have hB6 := hB4.ext hE5
  have hE6 := hE4.trans hE5
  clear hre hok hbe hR4 hB4 hE4 hE5
  generalize hx : decX L = x at *
  generalize hPs : decP L = Ps at *
  generalize hQs : decQ L = Qs at *
  have Hx := Lib.hid hx
  have HPs := Lib.hid hPs
  have HQs := Lib.hid hQs
  clear hx hPs hQs
  have fin : ∀ (wf : World), Blk wf w.heap.size 52 #[.int .i64 0, .slice none 0 0, .slice none 0 0] → Ext w wf → Blk (((wf.setCell ⟨w.heap.size, 0, none⟩ (.int .i64 0)).setCell ⟨w.heap.size, 1, none⟩ (.slice none 0 0)).setCell ⟨w.heap.size, 2, none⟩ (.slice none 0 0)) w.heap.size 52 #[.int .i64 0, .slice none 0 0, .slice none 0 0] ∧ Ext w (((wf.setCell ⟨w.heap.size, 0, none⟩ (.int .i64 0)).setCell ⟨w.heap.size, 1, none⟩ (.slice none 0 0)).setCell ⟨w.heap.size, 2, none⟩ (.slice none 0 0)) :=
    fun wf hb he => ⟨((hb.set 0 _).set 1 _).set 2 _, ((he.set (p := ⟨w.heap.size, 0, none⟩) (Nat.le_refl _) _).set (p := ⟨w.heap.size, 1, none⟩) (Nat.le_refl _) _).set (p := ⟨w.heap.size, 2, none⟩) (Nat.le_refl _) _⟩
  have Fin := Lib.hid fin
  clear fin
  cases be with
  | false =>
    have f0 := hB6.frozen 0
    have f1 := hB6.frozen 1
    have f2 := hB6.frozen 2
    have x0 := hB6.cell (i := 0) rfl
    have x1 := hB6.cell (i := 1) rfl
    have x2 := hB6.cell (i := 2) rfl
    go_wp2_with fail
    refine Hre.out.mono ?_
    rintro e w5 ⟨rfl, rfl⟩
    clear Hre
    go_wp2_with fail
    obtain ⟨b3, hEf⟩ := Fin.out _ hB6 hE6
    refine bodyPost_ret (results_sig rfl _ _ w.heap.size _ _ _ rfl b3 Try.underlying52 rfl rfl) rfl ?_
    exact ⟨fun h => absurd (Hok.out.symm.trans h) (by simp), fun _ => rfl, hEf⟩
  | true =>
    have y0 := hB5.cell (i := 0) (v := .int .i64 x) rfl
    have y1 := hB5.cell (i := 1) (v := .slice P 64 d) rfl
    have y2 := hB5.cell (i := 2) (v := .slice Q 4 d') rfl
    go_wp2_with fail
    refine Hre.out.mono ?_
    rintro e w5 ⟨rfl, rfl⟩
    clear Hre
    go_wp2_with fail
    refine (sright_any x P Q 64 d 4 d' Ps Qs _ oP.obc.rbb oQ.obc.rbb).mono ?_
    rintro e w7 ⟨rfl, hE7⟩
    have oP := oP.ext hE7
    have oQ := oQ.ext hE7
    have hB7 := hB6.ext hE7
    have hB57 := hB5.ext hE7
    have hE07 := hE6.trans hE7
    clear y0 y1 y2 hB6 hE6 hB5
    have f0 := hB7.frozen 0
    have f1 := hB7.frozen 1
    have f2 := hB7.frozen 2
    have x0 := hB7.cell (i := 0) rfl
    have x1 := hB7.cell (i := 1) rfl
    have x2 := hB7.cell (i := 2) rfl
    have y0 := hB57.cell (i := 0) (v := .int .i64 x) rfl
    have y1 := hB57.cell (i := 1) (v := .slice P 64 d) rfl
    have y2 := hB57.cell (i := 2) (v := .slice Q 4 d') rfl
    obtain ⟨rv, hrv⟩ : ∃ rv, rv = rightB x Ps Qs := ⟨_, rfl⟩
    rw [← hrv] at Hok ⊢
    clear hrv
    cases rv with
    | false =>
      go_wp2_with fail
      obtain ⟨b3, hEf⟩ := Fin.out _ hB7 hE07
      refine bodyPost_ret (results_sig rfl _ _ w.heap.size _ _ _ rfl b3 Try.underlying52 rfl rfl) rfl ?_
      exact ⟨fun h => absurd (Hok.out.symm.trans h) (by simp), fun _ => rfl, hEf⟩
    | true =>
      go_wp2_with fail
      have g1 := fun (w' : World) (u : Value) (i : Nat) => grown_set w' ⟨w.heap.size, i, none⟩ u
      have b1 := hB7.set 0 (.int .i64 x)
      have b2 := b1.set 1 (.slice P 64 d)
      have b3 := b2.set 2 (.slice Q 4 d')
      have oP3 := ((oP.far hB7 (by decide) (sig_no _ _ _ _ _ _ _) (g1 _ (.int .i64 x) 0)).far b1 (by decide) (sig_no _ _ _ _ _ _ _) (g1 _ (.slice P 64 d) 1)).far b2 (by decide) (sig_no _ _ _ _ _ _ _) (g1 _ (.slice Q 4 d') 2)
      have oQ3 := ((oQ.far hB7 (by decide) (sig_no _ _ _ _ _ _ _) (g1 _ (.int .i64 x) 0)).far b1 (by decide) (sig_no _ _ _ _ _ _ _) (g1 _ (.slice P 64 d) 1)).far b2 (by decide) (sig_no _ _ _ _ _ _ _) (g1 _ (.slice Q 4 d') 2)
      have hEf := ((hE07.set (p := ⟨w.heap.size, 0, none⟩) (Nat.le_refl _) (.int .i64 x)).set (p := ⟨w.heap.size, 1, none⟩) (Nat.le_refl _) (.slice P 64 d)).set (p := ⟨w.heap.size, 2, none⟩) (Nat.le_refl _) (.slice Q 4 d')
      refine bodyPost_ret (results_sig rfl _ _ w.heap.size _ _ _ rfl b3 Try.underlying52 rfl rfl) rfl ?_
      rw [Hx.out, HPs.out, HQs.out]
      exact ⟨fun _ => ⟨P, d, Q, d', rfl, oP3.base hbP, oQ3.base hbQ⟩, fun h => absurd (Hok.out.symm.trans h) (by simp), hEf⟩
end Go.Proofs.Ytmgnigofilkfmab
namespace Go.Proofs.Ytmgnigofilkfmab
set_option maxRecDepth 100000
open Go Go.RowKit
theorem RR.blk_ {w : World} {base q : Nat} {L : List UInt8} {bad : Bool} (h : RR w base q L bad) : ∃ cs, Blk w q 100 cs ∧ ∀ (i : Nat) (x : Int), cs[i]? ≠ some (.int .u8 x) := by
  obtain ⟨A, n, c, At, B, h1, _⟩ := h
  exact ⟨_, h1, rd_no _ _ _ _ _⟩
theorem RR.row {w w' : World} {base q : Nat} {L : List UInt8} {bad : Bool} (h : RR w base q L bad) {P : Option Addr} {n c : Nat} {vs : List Value} (own : w.ownsRow base 22 1 (.slice P n c) n vs) (g : w.grownBy w' (blk P)) : RR w' base q L bad := by
  obtain ⟨A, n', c', At, B, h1, h2, h3, h4, h5, h6, h7, h8⟩ := h
  have hlt : ∀ k, blk P = some k → base ≤ k := fun k hk => (World.ownsRow.lt own k (by rw [ownBlock_slice]; exact hk)).1
  refine ⟨A, n', c', At, B, h1.grown g (fun e => ?_), h2.grown g (fun h0 e => ?_), h3, h4, h5, h6, h7, h8⟩
  · exact row_ne own h1 (by decide) (by rw [ownBlock_slice]; exact e.symm)
  · cases hA : blk A with
    | none =>
      obtain ⟨ad, e1, _⟩ := h2.cells h0
      rw [e1] at hA
      cases hA
    | some k =>
      have := h8 h0 k hA
      have := hlt k (e.symm.trans hA)
      omega
theorem RR.far {w w' : World} {base q : Nat} {L : List UInt8} {bad : Bool} (h : RR w base q L bad) {k : Nat} {cs : Array Value} (hb : Blk w k 52 cs) (hno : ∀ (i : Nat) (x : Int), cs[i]? ≠ some (.int .u8 x)) (g : w.grownBy w' (some k)) : RR w' base q L bad := by
  obtain ⟨A, n', c', At, B, h1, h2, h3⟩ := h
  refine ⟨A, n', c', At, B, h1.grown g (fun e => ?_), h2.grown g (h2.apart5 hb hno), h3⟩
  injection e with e
  subst e
  unfold Blk at h1 hb
  rw [h1] at hb
  injection hb with hb
  injection hb with _ hb
  revert hb
  decide
def MP.rbnb (q b : Nat) (L : List UInt8) : MP Ext := ⟨fun u w => ∃ B n c, u = .slice B n c ∧ RB w B n c L ∧ (0 < n → blk B ≠ some q) ∧ ∀ k, blk B = some k → b ≤ k, fun _ _ _ e ⟨B, n, c, h1, h2, h3⟩ => ⟨B, n, c, h1, h2.ext e, h3⟩⟩
theorem staysq_rbnb (q b : Nat) (L : List UInt8) : StaysQ q (MP.rbnb q b L) := by
  rintro u w w' g ⟨B, n, c, h1, h2, h3, h4⟩
  exact ⟨B, n, c, h1, h2.grown g h3, h3, h4⟩
def MP.onen (q b : Nat) (L : List UInt8) : MP Ext := ⟨fun u w => ∃ x B n c, u = .slice (some ⟨x, 0, none⟩) 1 1 ∧ w.cell? ((⟨x, 0, none⟩ : Addr).add 0) = some (.slice B n c) ∧ x ≠ q ∧ RB w B n c L ∧ (0 < n → blk B ≠ some q) ∧ ∀ k, blk B = some k → b ≤ k, fun _ _ _ e ⟨x, B, n, c, h1, h2, h3, h4, h5⟩ => ⟨x, B, n, c, h1, e.cell h2, h3, h4.ext e, h5⟩⟩
theorem staysq_onen (q b : Nat) (L : List UInt8) : StaysQ q (MP.onen q b L) := by
  rintro u w w' g ⟨x, B, n, c, h1, h2, h3, h4, h5, h6⟩
  exact ⟨x, B, n, c, h1, g.cell h2 (by rw [block_of_add]; intro e; injection e with e; exact h3 e), h3, h4.grown g h5, h5, h6⟩
def RDecI (w : World) (q g6 : Nat) (x : Int) (s : List UInt8 × Bool) (i : Value) (wr : World) : Prop :=
  ∃ (k d : Nat) (P : Option Addr), k ≤ 64 ∧ i = .int .i64 k ∧ OBC wr w.heap.size P k d ((List.range k).map (someP s)) ∧ RR wr w.heap.size q (someS s k).1 (someS s k).2 ∧ Blk wr g6 52 #[.int .i64 x, .slice P k d, .slice none 0 0] ∧ Blk wr w.heap.size 52 #[.int .i64 0, .slice none 0 0, .slice none 0 0] ∧ Ext w wr
theorem Chg.step {a b c : World} {p : Nat} {A : Option Addr} {row : Option Nat} (h : Chg a b p A) (g : b.grownBy c row) (hr : ∀ k, row = some k → k = p ∨ blk A = some k ∨ a.heap.size ≤ k) : Chg a c p A :=
  ⟨g.os.trans h.os, g.tape.trans h.tape, g.output.trans h.output, Nat.le_trans h.size g.size, fun i hi h1 h2 => (g.block i (Nat.lt_of_lt_of_le hi h.size) (fun e => by
    rcases hr i e.symm with e' | e' | e'
    · exact h1 e'
    · exact h2 e'
    · omega)).trans (h.block i hi h1 h2)⟩
theorem OBC.chg {w w' : World} {base n c p g : Nat} {A : Option Addr} {Ls : List (List UInt8)} (h : OBC w base A n c Ls) (k : Chg w w' p (some ⟨g, 0, none⟩)) {tp tg : TypeId} {cp cg : Array Value} (hp : Blk w p tp cp) (hg : Blk w g tg cg) (htp : tp ≠ 22) (htg : tg ≠ 22)
    (np : ∀ (i : Nat) (x : Int), cp[i]? ≠ some (.int .u8 x)) (ng : ∀ (i : Nat) (x : Int), cg[i]? ≠ some (.int .u8 x)) : OBC w' base A n c Ls := by
  obtain ⟨vs, h1, h2, h3⟩ := h
  refine ⟨vs, row_chg h1 k (row_ne h1 hp htp) (fun b hb => by cases hb; exact row_ne h1 hg htg), h2, fun j hj => ?_⟩
  obtain ⟨B, m, d, h4, h5, h6⟩ := h3 j hj
  refine ⟨B, m, d, h4, h5.chg k (fun hm b hb => ⟨fun e => ?_, fun e => ?_⟩), h6⟩
  · exact h5.apart5 hp np hm (by rw [hb, e])
  · exact h5.apart5 hg ng hm (by rw [hb]; exact e.symm)
def RDecJ (w wb : World) (q g6 : Nat) (x : Int) (s : List UInt8 × Bool) (P : Option Addr) (d : Nat) (i : Value) (wr : World) : Prop :=
  ∃ (k d' : Nat) (Q : Option Addr), k ≤ 4 ∧ i = .int .i64 k ∧ OBC wr wb.heap.size Q k d' ((List.range k).map (someP s)) ∧ RR wr w.heap.size q (someS s k).1 (someS s k).2 ∧ Blk wr g6 52 #[.int .i64 x, .slice P 64 d, .slice Q k d'] ∧ Blk wr w.heap.size 52 #[.int .i64 0, .slice none 0 0, .slice none 0 0] ∧ Ext w wr ∧ Chg wb wr q (some ⟨g6, 0, none⟩) ∧ wb.heap.size ≤ wr.heap.size
/-- what the document reads -/
def refOK (L : List UInt8) : Prop := L.length = 2180 ∧ decX L < 16
set_option maxHeartbeats 16000000 in
theorem rdecode_any (A : Option Addr) (n c : Nat) (L : List UInt8) (w : World) (hr : RB w A n c L) (hn : n ≤ 140737488355328) :
    Calls Try.prog 45 #[.slice A n c] w fun e w' =>
      (refOK L → ∃ P d Q d', e = .returned (.tuple #[.agg #[.int .i64 (decX L), .slice P 64 d, .slice Q 4 d'], .bool true]) ∧ RBB w' P 64 d (decP L) ∧ RBB w' Q 4 d' (decQ L)) ∧
      (¬ refOK L → e = .returned (.tuple #[.agg #[.int .i64 0, .slice none 0 0, .slice none 0 0], .bool false])) ∧ Ext w w' := by
  have hcx := fun w' => conv_u32_i64' (P := Try.prog) (w := w') Try.underlying25 Try.underlying3 (beNum (rtake L false 4).1)
  have hE0 := Ext.new w (.cells #[.int .i64 0, .slice none 0 0, .slice none 0 0] 52)
  have hB0 := Blk.new w 52 #[.int .i64 0, .slice none 0 0, .slice none 0 0]
  have Hl := Lib.hid hr.len
  by_cases hlen : n = 2180
  rotate_left
  · have hno : ¬ refOK L := fun h => hlen (Hl.out.symm.trans h.1)
    have Hno := Lib.hid hno
    have hn2 : ¬ ((n : Int) = 2180) := by omega
    clear hno hcx
    go_enter Try.func45, Try.ntmps45
    go_wp2_with fail
    refine bodyPost_ret (results_sig rfl _ _ w.heap.size _ _ _ rfl hB0 Try.underlying52 rfl rfl) rfl ?_
    exact ⟨fun h => absurd h Hno.out, fun _ => rfl, hE0⟩
  subst hlen
  obtain ⟨w0, hw0⟩ : ∃ w0, w0 = w.alloc (.cells #[.int .i64 0, .slice none 0 0, .slice none 0 0] 52) := ⟨_, rfl⟩
  rw [← hw0] at hE0 hB0
  have hs0 : w0.heap.size = w.heap.size + 1 := by rw [hw0]; exact World.size_alloc _ _
  have hE1 := Ext.new w0 (.cells #[.slice A 2180 c, .int .i64 0, .bool false] 100)
  have hB1 := Blk.new w0 100 #[.slice A 2180 c, .int .i64 ((0 : Nat) : Int), .bool false]
  have hR1 : RR (w0.alloc (.cells #[.slice A 2180 c, .int .i64 0, .bool false] 100)) w.heap.size (w.heap.size + 1) L false := by
    rw [hs0] at hB1
    exact ⟨A, 2180, c, 0, L, hB1, (hr.ext hE0).ext hE1, Nat.zero_le _, hn, by omega, fun _ => rfl, (fun h => by cases h), fun h0 k hk => rb_blk_lt hr h0 k hk⟩
  have hE01 := hE0.trans hE1
  have hB01 := hB0.ext hE1
  obtain ⟨w1, hw1⟩ : ∃ w1, w1 = w0.alloc (.cells #[.slice A 2180 c, .int .i64 0, .bool false] 100) := ⟨_, rfl⟩
  rw [← hw1] at hR1 hE01 hB01
  clear hB1 hE1 hE0 hB0 hr
  go_enter Try.func45, Try.ntmps45
  go_wp2_with fail
  rw [← hw0, ← hw1]
  clear hw1 hw0 hs0
  refine (r1number_any w1 w.heap.size (w.heap.size + 1) L false 4 hR1).mono ?_
  rintro e w2 ⟨rfl, hR2, hG2⟩
  have hR2 : RR w2 w.heap.size (w.heap.size + 1) (dS1 L).1 (dS1 L).2 := hR2
  have hE2 := hE01.then_grown hG2 (by intro k hk; cases hk; omega)
  have hB2 := hB01.grown hG2 (by intro e; injection e with e; omega)
  clear hR1 hE01 hB01 hG2
  have hX : decX L = u32i (beNum (rtake L false 4).1) := rfl
  by_cases h16 : 16 ≤ u32i (beNum (rtake L false 4).1)
  · have hno : ¬ refOK L := fun h => by have := h.2; rw [hX] at this; omega
    have Hno := Lib.hid hno
    have f0 := hB2.frozen 0
    have f1 := hB2.frozen 1
    have f2 := hB2.frozen 2
    have x0 := hB2.cell (i := 0) rfl
    have x1 := hB2.cell (i := 1) rfl
    have x2 := hB2.cell (i := 2) rfl
    clear hno hcx
    go_wp2_with fail
    have b3 := ((hB2.set 0 (.int .i64 0)).set 1 (.slice none 0 0)).set 2 (.slice none 0 0)
    have hEf := ((hE2.set (p := ⟨w.heap.size, 0, none⟩) (Nat.le_refl _) (.int .i64 0)).set (p := ⟨w.heap.size, 1, none⟩) (Nat.le_refl _) (.slice none 0 0)).set (p := ⟨w.heap.size, 2, none⟩) (Nat.le_refl _) (.slice none 0 0)
    refine bodyPost_ret (results_sig rfl _ _ w.heap.size _ _ _ rfl b3 Try.underlying52 rfl rfl) rfl ?_
    exact ⟨fun h => absurd h Hno.out, fun _ => rfl, hEf⟩
  have hok : refOK L := ⟨Hl.out, by rw [hX]; omega⟩
  have Hok := Lib.hid hok
  clear hok
  have hq1 : w.heap.size ≤ w.heap.size + 1 := Nat.le_succ _
  obtain ⟨q, hq⟩ : ∃ q, q = w.heap.size + 1 := ⟨_, rfl⟩
  rw [← hq] at hR2 hq1 ⊢
  have hqlt : q < w2.heap.size := hR2.lt
  have hwq : w.heap.size < q := by omega
  have Hq := Lib.hid hq
  clear hq
  go_wp2_with fail
  rw [← hX]
  generalize hx : decX L = x at *
  have Hx := Lib.hid hx
  clear hX h16 hcx hx
  have hE3 := Ext.new w2 (.cells #[.int .i64 x, .slice none 0 0, .slice none 0 0] 52)
  have hB6 := Blk.new w2 52 #[.int .i64 x, .slice none 0 0, .slice none 0 0]
  have hE03 := hE2.trans hE3
  have hR3 := hR2.later hE3
  have hB3 := hB2.ext hE3
  obtain ⟨g6, hg6⟩ : ∃ g6, g6 = w2.heap.size := ⟨_, rfl⟩
  rw [← hg6] at hB6 hqlt ⊢
  have hwg : w.heap.size < g6 := by have := hB2.lt; omega
  clear hg6 hR2 hE2 hB2 hE3
  have hR3 : RR (w2.alloc (.cells #[.int .i64 x, .slice none 0 0, .slice none 0 0] 52)) w.heap.size q (someS (dS1 L) 0).1 (someS (dS1 L) 0).2 := hR3
  go_loopw [7] (fun i wr => RDecI w q g6 x (dS1 L) i wr) (fun i _ => 64 - (intOf i).toNat)
  case atStart => exact ⟨0, 0, none, by omega, rfl, OBC.none_ _ _, hR3, hB6, hB3, hE03⟩
  case round =>
    clear hR3 hB6 hB3 hE03
    obtain ⟨k, d, P, hk, rfl, own, hR, hB6, hB, hEr⟩ := hrel
    by_cases hlt : k < 64
    · have hki : (k : Int) < 64 := by omega
      have hne6 : g6 ≠ q := by omega
      go_upto_region 11 with (fail)
      have hqI : w.heap.size ≤ q := hq1
      have hS0 : (fun j w' => RR w' w.heap.size q (someS (dS1 L) (k + j)).1 (someS (dS1 L) (k + j)).2) 0 wr.drew := hR.later (Ext.refl wr).drew
      have hSx : ∀ j w1 w2, Ext w1 w2 → (fun j w' => RR w' w.heap.size q (someS (dS1 L) (k + j)).1 (someS (dS1 L) (k + j)).2) j w1 → (fun j w' => RR w' w.heap.size q (someS (dS1 L) (k + j)).1 (someS (dS1 L) (k + j)).2) j w2 := fun j w1 w2 e h => RR.later h e
      have hStay : StaysQL q [.is (.pointer (some ⟨g6, 1, none⟩)), .is (.slice (P) (k) (d)), .is (.pointer (some ⟨q, 0, none⟩)), .rbnb q (wr.heap.size) (someP (dS1 L) k), .onen q (wr.heap.size) (someP (dS1 L) k)] := ⟨staysq_is _ _, staysq_is _ _, staysq_is _ _, staysq_rbnb _ _ _, staysq_onen _ _ _, trivial⟩
      refine par_chain (n := 5) (q := q) [3] (fun j w' => RR w' w.heap.size q (someS (dS1 L) (k + j)).1 (someS (dS1 L) (k + j)).2) hEr hS0 (by kernel_rfl) [.is (.pointer (some ⟨g6, 1, none⟩)), .is (.slice (P) (k) (d)), .is (.pointer (some ⟨q, 0, none⟩)), .rbnb q (wr.heap.size) (someP (dS1 L) k), .onen q (wr.heap.size) (someP (dS1 L) k)] rfl rfl ⟨?_, ?_, ?_, ?_, ?_, trivial⟩ ?_
      · refine stepEC rfl rfl hSx fun sdn sa sw sG sE sd sk => ?_
        have h6 : sa.eval (.tmp 6) = .pointer (some ⟨g6, 0, none⟩) := sk.old 6 rfl
        refine Runs.of_run (r := .pointer (some ⟨g6, 1, none⟩)) (w' := sw) ?_ ⟨Ext.refl _, rfl⟩
        unfold execOp
        simp only [h6]
        go_simp
      · refine stepEC rfl rfl hSx fun sdn sa sw sG sE sd sk => ?_
        have h28 : sa.eval (.tmp 28) = .pointer (some ⟨g6, 1, none⟩) := sk.fact 0 28 rfl (sd 0 rfl)
        exact Runs.load rfl h28 (run_load1 Try.underlying50 rfl ((hB6.grown sG (by intro e; injection e with e; exact hne6 e)).cell (i := 1) rfl)) ⟨Ext.refl _, rfl⟩
      · refine stepEC rfl rfl hSx fun sdn sa sw sG sE sd sk => ?_
        have h4 : sa.eval (.tmp 4) = .pointer (some ⟨q, 0, none⟩) := sk.old 4 rfl
        exact Runs.move rfl h4 ⟨Ext.refl _, rfl⟩
      · refine stepCC (j := 0) rfl rfl (by decide) (.inl rfl) hStay hqI fun sdn sa sw sG sE sS sd sk => ?_
        have h30 : sa.eval (.tmp 30) = .pointer (some ⟨q, 0, none⟩) := sk.fact 2 30 rfl (sd 2 rfl)
        refine Runs.call (f := 84) (vs := [.pointer (some ⟨q, 0, none⟩), .int .i64 (32 : Int)]) rfl rfl rfl (by simp only [List.map_toArray, List.map_cons, List.map_nil, h30] <;> rfl) (ent84 _ _) ((r1raw_any sw w.heap.size q _ _ 32 sS).mono ?_); rintro e w' ⟨⟨B, m, d, rfl, own⟩, h3, h4⟩; exact ⟨_, rfl, h4, h3, B, m, d, rfl, own.rb, fun hm e => by have h5 := (own.lt e).1; have h6 := sG.size; have h7 := hR.lt; omega, fun k hk => Nat.le_trans sG.size (own.lt hk).1⟩
      · refine stepEC rfl rfl hSx fun sdn sa sw sG sE sd sk => ?_
        obtain ⟨B31, n31, c31, h31, r31, u31, b31⟩ := sk.fact 3 31 rfl (sd 3 rfl)
        exact Runs.one1 rfl h31 (fun w1 e1 b1 => ⟨e1, _, _, _, _, rfl, b1, (by have h6 := sG.size; have h7 := hR.lt; omega), r31.ext e1, u31, b31⟩)
      intro vals W1 hG hE hS hv
      have e0 : vals 0 = .pointer (some ⟨g6, 1, none⟩) := hv 0 (by omega) 28 rfl
      have e1 : vals 1 = .slice (P) (k) (d) := hv 1 (by omega) 29 rfl
      have e2 : vals 2 = .pointer (some ⟨q, 0, none⟩) := hv 2 (by omega) 30 rfl
      obtain ⟨B31, n31, c31, e3, r31, u31, b31⟩ := hv 3 (by omega) 31 rfl
      obtain ⟨x32, B32, n32, c32, e4, hc32, x32q, r32, u32, b32⟩ := hv 4 (by omega) 32 rfl
      simp only [putAll, Act.put, List.take_succ_cons, List.take_zero, List.drop_succ_cons, List.drop_zero, List.drop_nil, List.take_nil, Nat.reduceAdd, List.setIfInBounds_toArray, List.set_cons_succ, List.set_cons_zero, e0, e1, e2, e3, e4]
      clear hv e0 e1 e2 e3 e4
      obtain ⟨csq, hBq, hnoq⟩ := hR.blk_
      have own1 := own.far hBq (by decide) hnoq hG
      have hB61 := hB6.grown hG (by intro e; injection e with e; omega)
      have hB1 := hB.grown hG (by intro e; injection e with e; omega)
      have hR1 : RR W1 w.heap.size q (someS (dS1 L) (k + 1)).1 (someS (dS1 L) (k + 1)).2 := hS
      have hEw := hE
      have hne : 0 < n32 → blk B32 ≠ blk P := by
        intro hm e
        cases hB : blk B32 with
        | none =>
          obtain ⟨ad, h1, _⟩ := r32.cells hm
          rw [h1] at hB
          cases hB
        | some b =>
          have h1 := b32 b hB
          have h2 := own.lt (e.symm.trans hB)
          omega
      have hne8 : some g6 ≠ blk P := by
        intro e
        obtain ⟨vs, r1', _⟩ := own
        exact row_ne r1' hB6 (by decide) (by rw [ownBlock_slice]; exact e.symm)
      have hne0 : some w.heap.size ≠ blk P := by
        intro e
        obtain ⟨vs, r1', _⟩ := own
        exact row_ne r1' hB (by decide) (by rw [ownBlock_slice]; exact e.symm)
      clear hR hB6 hB hG hE hS hBq
      go_wp2_with (refine appbc_law (base := w.heap.size) (Y := someP (dS1 L) k) rfl rfl rfl rfl hc32 own1 r32 hne hEw.size (by omega) ?_; intro P5 d5 w5 own5 g5; have hB65 := hB61.grown g5 hne8; have y5 := hB65.cell (i := 1) (v := .slice P k d) rfl; have y6 := hB65.frozen 1)
      have hR5 : RR w5 w.heap.size q (someS (dS1 L) (k + 1)).1 (someS (dS1 L) (k + 1)).2 := by
        obtain ⟨vs, r1, _⟩ := own1
        exact hR1.row r1 g5
      have gs := grown_set w5 ⟨g6, 1, none⟩ (.slice P5 (k + 1) d5)
      have own6 := own5.far hB65 (by decide) (sig_no _ _ _ _ _ _ _) gs
      have hR6 := hR5.far hB65 (sig_no _ _ _ _ _ _ _) gs
      have hB66 := hB65.set 1 (.slice P5 (k + 1) d5)
      have hB06 := (hB1.grown g5 hne0).far (p := ⟨g6, 1, none⟩) (by show w.heap.size ≠ g6; omega) (.slice P5 (k + 1) d5)
      have hE6 := (hEw.then_grown g5 (fun b hb => (own1.lt hb).1)).set (p := ⟨g6, 1, none⟩) (Nat.le_of_lt hwg) (.slice P5 (k + 1) d5)
      clear own1 hB61 hB1 hR1 hEw own5 g5 hB65 y5 y6 hR5 gs
      go_roundw
      case rel =>
        refine ⟨k + 1, d5, P5, by omega, by go_num, ?_, hR6, hB66, hB06, hE6⟩
        rw [range_snoc]
        exact own6
      case measure => simp [intOf]; omega
    · obtain rfl : k = 64 := by omega
      have oP : OBC wr w.heap.size P 64 d (decP L) := own
      have hR : RR wr w.heap.size q (someS (dS2 L) 0).1 (someS (dS2 L) 0).2 := hR
      clear own
      go_wp2_with fail
      obtain ⟨wb, rfl⟩ : ∃ wb, wb = wr := ⟨_, rfl⟩
      have e64 : ((64 : Nat) : Int) = 64 := rfl
      simp only [e64]
      clear e64
      go_loopw [8] (fun i wr => RDecJ w wb q g6 x (dS2 L) P d i wr) (fun i _ => 4 - (intOf i).toNat)
      case atStart => exact ⟨0, 0, none, by omega, rfl, OBC.none_ _ _, hR, hB6, hB, hEr, Chg.refl _ _ _, Nat.le_refl _⟩
      case round =>
        have hwb := hEr.size
        obtain ⟨csb, hBqb, hnob⟩ := hR.blk_
        have hB6b := hB6
        clear hR hB6 hB hEr
        obtain ⟨k, d', Q, hk', rfl, own, hR, hB6, hB, hEr, hC, hsz⟩ := hrel
        by_cases hlt2 : k < 4
        · have hki : (k : Int) < 4 := by omega
          have hne6 : g6 ≠ q := by omega
          go_upto_region 15 with (fail)
          have hqI : w.heap.size ≤ q := hq1
          have hS0 : (fun j w' => RR w' w.heap.size q (someS (dS2 L) (k + j)).1 (someS (dS2 L) (k + j)).2) 0 wr.drew := hR.later (Ext.refl wr).drew
          have hSx : ∀ j w1 w2, Ext w1 w2 → (fun j w' => RR w' w.heap.size q (someS (dS2 L) (k + j)).1 (someS (dS2 L) (k + j)).2) j w1 → (fun j w' => RR w' w.heap.size q (someS (dS2 L) (k + j)).1 (someS (dS2 L) (k + j)).2) j w2 := fun j w1 w2 e h => RR.later h e
          have hStay : StaysQL q [.is (.pointer (some ⟨g6, 2, none⟩)), .is (.slice (Q) (k) (d')), .is (.pointer (some ⟨q, 0, none⟩)), .rbnb q (wr.heap.size) (someP (dS2 L) k), .onen q (wr.heap.size) (someP (dS2 L) k)] := ⟨staysq_is _ _, staysq_is _ _, staysq_is _ _, staysq_rbnb _ _ _, staysq_onen _ _ _, trivial⟩
          refine par_chain (n := 5) (q := q) [3] (fun j w' => RR w' w.heap.size q (someS (dS2 L) (k + j)).1 (someS (dS2 L) (k + j)).2) hEr hS0 (by kernel_rfl) [.is (.pointer (some ⟨g6, 2, none⟩)), .is (.slice (Q) (k) (d')), .is (.pointer (some ⟨q, 0, none⟩)), .rbnb q (wr.heap.size) (someP (dS2 L) k), .onen q (wr.heap.size) (someP (dS2 L) k)] rfl rfl ⟨?_, ?_, ?_, ?_, ?_, trivial⟩ ?_
          · refine stepEC rfl rfl hSx fun sdn sa sw sG sE sd sk => ?_
            have h6 : sa.eval (.tmp 6) = .pointer (some ⟨g6, 0, none⟩) := sk.old 6 rfl
            refine Runs.of_run (r := .pointer (some ⟨g6, 2, none⟩)) (w' := sw) ?_ ⟨Ext.refl _, rfl⟩
            unfold execOp
            simp only [h6]
            go_simp
          · refine stepEC rfl rfl hSx fun sdn sa sw sG sE sd sk => ?_
            have h39 : sa.eval (.tmp 39) = .pointer (some ⟨g6, 2, none⟩) := sk.fact 0 39 rfl (sd 0 rfl)
            exact Runs.load rfl h39 (run_load1 Try.underlying50 rfl ((hB6.grown sG (by intro e; injection e with e; exact hne6 e)).cell (i := 2) rfl)) ⟨Ext.refl _, rfl⟩
          · refine stepEC rfl rfl hSx fun sdn sa sw sG sE sd sk => ?_
            have h4 : sa.eval (.tmp 4) = .pointer (some ⟨q, 0, none⟩) := sk.old 4 rfl
            exact Runs.move rfl h4 ⟨Ext.refl _, rfl⟩
          · refine stepCC (j := 0) rfl rfl (by decide) (.inl rfl) hStay hqI fun sdn sa sw sG sE sS sd sk => ?_
            have h41 : sa.eval (.tmp 41) = .pointer (some ⟨q, 0, none⟩) := sk.fact 2 41 rfl (sd 2 rfl)
            refine Runs.call (f := 84) (vs := [.pointer (some ⟨q, 0, none⟩), .int .i64 (32 : Int)]) rfl rfl rfl (by simp only [List.map_toArray, List.map_cons, List.map_nil, h41] <;> rfl) (ent84 _ _) ((r1raw_any sw w.heap.size q _ _ 32 sS).mono ?_); rintro e w' ⟨⟨B, m, d, rfl, own⟩, h3, h4⟩; exact ⟨_, rfl, h4, h3, B, m, d, rfl, own.rb, fun hm e => by have h5 := (own.lt e).1; have h6 := sG.size; have h7 := hR.lt; omega, fun k hk => Nat.le_trans sG.size (own.lt hk).1⟩
          · refine stepEC rfl rfl hSx fun sdn sa sw sG sE sd sk => ?_
            obtain ⟨B42, n42, c42, h42, r42, u42, b42⟩ := sk.fact 3 42 rfl (sd 3 rfl)
            exact Runs.one1 rfl h42 (fun w1 e1 b1 => ⟨e1, _, _, _, _, rfl, b1, (by have h6 := sG.size; have h7 := hR.lt; omega), r42.ext e1, u42, b42⟩)
          intro vals W1 hG hE hS hv
          have e0 : vals 0 = .pointer (some ⟨g6, 2, none⟩) := hv 0 (by omega) 39 rfl
          have e1 : vals 1 = .slice (Q) (k) (d') := hv 1 (by omega) 40 rfl
          have e2 : vals 2 = .pointer (some ⟨q, 0, none⟩) := hv 2 (by omega) 41 rfl
          obtain ⟨B42, n42, c42, e3, r42, u42, b42⟩ := hv 3 (by omega) 42 rfl
          obtain ⟨x43, B43, n43, c43, e4, hc43, x43q, r43, u43, b43⟩ := hv 4 (by omega) 43 rfl
          simp only [putAll, Act.put, List.take_succ_cons, List.take_zero, List.drop_succ_cons, List.drop_zero, List.drop_nil, List.take_nil, Nat.reduceAdd, List.setIfInBounds_toArray, List.set_cons_succ, List.set_cons_zero, e0, e1, e2, e3, e4]
          clear hv e0 e1 e2 e3 e4
          obtain ⟨csq, hBq, hnoq⟩ := hR.blk_
          have own1 := own.far hBq (by decide) hnoq hG
          have hB61 := hB6.grown hG (by intro e; injection e with e; omega)
          have hB1 := hB.grown hG (by intro e; injection e with e; omega)
          have hR1 : RR W1 w.heap.size q (someS (dS2 L) (k + 1)).1 (someS (dS2 L) (k + 1)).2 := hS
          have hC1 := hC.step hG (fun b hb => .inl (by injection hb with hb; exact hb.symm))
          have hEw := hE
          have hszW : wb.heap.size ≤ W1.heap.size := Nat.le_trans hsz hG.size
          have hne : 0 < n43 → blk B43 ≠ blk Q := by
            intro hm e
            cases hB : blk B43 with
            | none =>
              obtain ⟨ad, h1, _⟩ := r43.cells hm
              rw [h1] at hB
              cases hB
            | some b =>
              have h1 := b43 b hB
              have h2 := own.lt (e.symm.trans hB)
              omega
          have hne8 : some g6 ≠ blk Q := by
            intro e
            obtain ⟨vs, r1', _⟩ := own
            exact row_ne r1' hB6 (by decide) (by rw [ownBlock_slice]; exact e.symm)
          have hne0 : some w.heap.size ≠ blk Q := by
            intro e
            obtain ⟨vs, r1', _⟩ := own
            exact row_ne r1' hB (by decide) (by rw [ownBlock_slice]; exact e.symm)
          clear hR hB6 hB hG hE hS hBq hC
          go_wp2_with (refine appbc_law (base := wb.heap.size) (Y := someP (dS2 L) k) rfl rfl rfl rfl hc43 own1 r43 hne hszW (by omega) ?_; intro P5 d5 w5 own5 g5; have hB65 := hB61.grown g5 hne8; have y5 := hB65.cell (i := 2) (v := .slice Q k d') rfl; have y6 := hB65.frozen 2)
          have hR5 : RR w5 w.heap.size q (someS (dS2 L) (k + 1)).1 (someS (dS2 L) (k + 1)).2 := by
            obtain ⟨vs, r1, _⟩ := own1
            exact hR1.row (ownsRow_base r1 hwb) g5
          have gs := grown_set w5 ⟨g6, 2, none⟩ (.slice P5 (k + 1) d5)
          have own6 := own5.far hB65 (by decide) (sig_no _ _ _ _ _ _ _) gs
          have hR6 := hR5.far hB65 (sig_no _ _ _ _ _ _ _) gs
          have hB66 := hB65.set 2 (.slice P5 (k + 1) d5)
          have hB06 := (hB1.grown g5 hne0).far (p := ⟨g6, 2, none⟩) (by show w.heap.size ≠ g6; omega) (.slice P5 (k + 1) d5)
          have hE6 := (hEw.then_grown g5 (fun b hb => Nat.le_trans hwb (own1.lt hb).1)).set (p := ⟨g6, 2, none⟩) (Nat.le_of_lt hwg) (.slice P5 (k + 1) d5)
          have hC6 := (hC1.step g5 (fun b hb => .inr (.inr (own1.lt hb).1))).step gs (fun b hb => .inr (.inl hb))
          have hsz6 : wb.heap.size ≤ (w5.setCell ⟨g6, 2, none⟩ (.slice P5 (k + 1) d5)).heap.size := Nat.le_trans (Nat.le_trans hszW g5.size) gs.size
          clear own1 hB61 hB1 hR1 hEw own5 g5 hB65 y5 y6 hR5 gs hC1
          go_roundw
          case rel =>
            refine ⟨k + 1, d5, P5, by omega, by go_num, ?_, hR6, hB66, hB06, hE6, hC6, hsz6⟩
            rw [range_snoc]
            exact own6
          case measure => simp [intOf]; omega
        · obtain rfl : k = 4 := by omega
          have oQ : OBC wr wb.heap.size Q 4 d' (decQ L) := own
          have oP := oP.chg hC hBqb hB6b (by decide) (by decide) hnob (sig_no _ _ _ _ _ _ _)
          clear own hC hBqb hB6b hR
          have z0 := hB6.cell (i := 0) (v := .int .i64 x) rfl
          have z1 := hB6.cell (i := 1) (v := .slice P 64 d) rfl
          have z2 := hB6.cell (i := 2) (v := .slice Q 4 d') rfl
          have f0 := hB.frozen 0
          have f1 := hB.frozen 1
          have f2 := hB.frozen 2
          have x0 := hB.cell (i := 0) rfl
          have x1 := hB.cell (i := 1) rfl
          have x2 := hB.cell (i := 2) rfl
          go_wp2_with fail
          have g1 := fun (w' : World) (u : Value) (i : Nat) => grown_set w' ⟨w.heap.size, i, none⟩ u
          have b1 := hB.set 0 (.int .i64 x)
          have b2 := b1.set 1 (.slice P 64 d)
          have b3 := b2.set 2 (.slice Q 4 d')
          have oP3 := ((oP.far hB (by decide) (sig_no _ _ _ _ _ _ _) (g1 _ (.int .i64 x) 0)).far b1 (by decide) (sig_no _ _ _ _ _ _ _) (g1 _ (.slice P 64 d) 1)).far b2 (by decide) (sig_no _ _ _ _ _ _ _) (g1 _ (.slice Q 4 d') 2)
          have oQ3 := ((oQ.far hB (by decide) (sig_no _ _ _ _ _ _ _) (g1 _ (.int .i64 x) 0)).far b1 (by decide) (sig_no _ _ _ _ _ _ _) (g1 _ (.slice P 64 d) 1)).far b2 (by decide) (sig_no _ _ _ _ _ _ _) (g1 _ (.slice Q 4 d') 2)
          have hEf := ((hEr.set (p := ⟨w.heap.size, 0, none⟩) (Nat.le_refl _) (.int .i64 x)).set (p := ⟨w.heap.size, 1, none⟩) (Nat.le_refl _) (.slice P 64 d)).set (p := ⟨w.heap.size, 2, none⟩) (Nat.le_refl _) (.slice Q 4 d')
          refine bodyPost_ret (results_sig rfl _ _ w.heap.size _ _ _ rfl b3 Try.underlying52 rfl rfl) rfl ?_
          rw [Hx.out]
          exact ⟨fun _ => ⟨P, d, Q, d', rfl, oP3.rbb, oQ3.rbb⟩, fun h => absurd Hok.out h, hEf⟩
end Go.Proofs.Ytmgnigofilkfmab
namespace Go.Proofs.Ytmgnigofilkfmab
set_option maxRecDepth 100000
open Go Go.RowKit
theorem list_eq_lb {Ls Ms : List (List UInt8)} (hl : Ls.length = Ms.length) (h : ∀ j, j < Ls.length → lb Ls j = lb Ms j) : Ls = Ms := by
  apply List.ext_getElem hl
  intro j h1 h2
  have := h j h1
  simpa [lb, h1, h2] using this
def EqI (w : World) (Ls Ms : List (List UInt8)) (i : Value) (wr : World) : Prop := ∃ k : Nat, k ≤ Ls.length ∧ i = .int .i64 k ∧ (∀ j, j < k → lb Ls j = lb Ms j) ∧ wr = w
open Classical in
set_option maxHeartbeats 4000000 in
theorem equalf_any (A C : Option Addr) (n c m d : Nat) (Ls Ms : List (List UInt8)) (w : World) (hr : RBB w A n c Ls) (hs : RBB w C m d Ms) :
    Calls Try.prog 82 #[.slice A n c, .slice C m d, .func (.func 74) #[] #[]] w fun e w' => e = .returned (.bool (decide (Ls = Ms))) ∧ w' = w := by
  have hcap := hr.cap
  have hroom := hr.room
  have hroom2 := hs.room
  unfold maxLen at hcap
  have Hl := Lib.hid hr.len
  have Hm := Lib.hid hs.len
  by_cases hnm : n = m
  rotate_left
  · have hv : decide (Ls = Ms) = false := decide_eq_false (fun e => hnm (by rw [← Hl.out, ← Hm.out, e]))
    have Hv := Lib.hid hv
    have hne : ¬ ((n : Int) = (m : Int)) := by omega
    clear hv
    go_enter Try.func82, Try.ntmps82
    go_wp2_with fail
    go_ret
    exact ⟨by rw [Hv.out]; rfl, rfl⟩
  subst hnm
  go_enter Try.func82, Try.ntmps82
  go_wp2_with fail
  go_loopw [17] (fun i wr => EqI w Ls Ms i wr) (fun i _ => n - (intOf i).toNat)
  case atStart => exact ⟨0, by omega, rfl, fun j hj => absurd hj (Nat.not_lt_zero _), rfl⟩
  case round =>
    obtain ⟨k, hk, rfl, hall, rfl⟩ := hrel
    rw [Hl.out] at hk
    have Hall := Lib.hid hall
    clear hall
    by_cases hlt : k < n
    · have hki : (k : Int) < (n : Int) := by omega
      obtain ⟨ad, rfl, hc⟩ := hr.cells (by omega)
      obtain ⟨bd, rfl, hd⟩ := hs.cells (by omega)
      obtain ⟨E, z, y, hcell, hrE⟩ := hc k hlt
      obtain ⟨E2, z2, y2, hcell2, hrE2⟩ := hd k hlt
      have hsm := hsame_any E E2 z y z2 y2 _ _ wr hrE hrE2
      have Hsm := Lib.hid hsm
      clear hc hd hrE hrE2 hsm
      go_wp2_with fail
      refine Hsm.out.mono ?_
      rintro e w2 ⟨rfl, rfl⟩
      clear Hsm
      by_cases he : lb Ls k = lb Ms k
      · have e1 : decide (lb Ls k = lb Ms k) = true := decide_eq_true he
        rw [e1]
        clear e1
        go_wp2_with fail
        go_roundw
        case rel =>
          refine ⟨k + 1, by rw [Hl.out]; omega, by go_num, fun j hj => ?_, rfl⟩
          by_cases hjk : j = k
          · subst hjk; exact he
          · exact Hall.out j (by omega)
        case measure => simp [intOf]; omega
      · have e1 : decide (lb Ls k = lb Ms k) = false := decide_eq_false he
        rw [e1]
        have hv : decide (Ls = Ms) = false := decide_eq_false (fun e => he (by rw [e]))
        have Hv := Lib.hid hv
        clear e1 hv
        go_wp2_with fail
        go_ret
        exact ⟨by rw [Hv.out]; rfl, rfl⟩
    · obtain rfl : k = n := by omega
      have hv : decide (Ls = Ms) = true := decide_eq_true (list_eq_lb (Hl.out.trans Hm.out.symm) (fun j hj => Hall.out j (by rw [← Hl.out]; exact hj)))
      have Hv := Lib.hid hv
      clear hv
      go_wp2_with fail
      go_ret
      exact ⟨by rw [Hv.out]; rfl, rfl⟩
open Classical in
noncomputable def sigEq (x y : Int) (Ps Ps' Qs Qs' : List (List UInt8)) : Bool := decide (x = y ∧ Ps = Ps' ∧ Qs = Qs')
open Classical in
theorem sigEq_parts (x : Int) {Ps Ps' : List (List UInt8)} (Qs Qs' : List (List UInt8)) (h : Ps = Ps') : sigEq x x Ps Ps' Qs Qs' = decide (Qs = Qs') := by unfold sigEq; simp [h]
theorem sigEq_no {x y : Int} {Ps Ps' Qs Qs' : List (List UInt8)} (h : ¬ (x = y ∧ Ps = Ps' ∧ Qs = Qs')) : sigEq x y Ps Ps' Qs Qs' = false := by unfold sigEq; exact decide_eq_false h
theorem sigEq_yes (x : Int) (Ps Qs : List (List UInt8)) : sigEq x x Ps Ps Qs Qs = true := by unfold sigEq; simp
open Classical in
set_option maxHeartbeats 4000000 in
theorem ssame_any (x y : Int) (P Q P' Q' : Option Addr) (np cp nq cq np' cp' nq' cq' : Nat) (Ps Qs Ps' Qs' : List (List UInt8)) (w : World) (hp : RBB w P np cp Ps) (hq : RBB w Q nq cq Qs) (hp' : RBB w P' np' cp' Ps') (hq' : RBB w Q' nq' cq' Qs') :
    Calls Try.prog 44 #[.agg #[.int .i64 x, .slice P np cp, .slice Q nq cq], .agg #[.int .i64 y, .slice P' np' cp', .slice Q' nq' cq']] w fun e w' => e = .returned (.bool (sigEq x y Ps Ps' Qs Qs')) ∧ Ext w w' := by
  have hE1 := Ext.new w (.cells #[.int .i64 x, .slice P np cp, .slice Q nq cq] 52)
  obtain ⟨w1, hw1⟩ : ∃ w1, w1 = w.alloc (.cells #[.int .i64 x, .slice P np cp, .slice Q nq cq] 52) := ⟨_, rfl⟩
  rw [← hw1] at hE1
  have hE2 := Ext.new w1 (.cells #[.int .i64 y, .slice P' np' cp', .slice Q' nq' cq'] 52)
  have hE12 := hE1.trans hE2
  rw [hw1] at hE12
  clear hw1 hE1 hE2
  have h1 := equalf_any P P' np cp np' cp' Ps Ps' _ (hp.ext hE12) (hp'.ext hE12)
  have h2 := equalf_any Q Q' nq cq nq' cq' Qs Qs' _ (hq.ext hE12) (hq'.ext hE12)
  have H1 := Lib.hid h1
  have H2 := Lib.hid h2
  clear h1 h2
  go_enter Try.func44, Try.ntmps44
  by_cases hx : x = y
  · subst hx
    go_wp2_with fail
    refine H1.out.mono ?_
    rintro e w2 ⟨rfl, rfl⟩
    clear H1
    by_cases hP : Ps = Ps'
    · have e1 : decide (Ps = Ps') = true := decide_eq_true hP
      rw [e1]
      have hv := sigEq_parts x Qs Qs' hP
      have Hv := Lib.hid hv
      clear e1 hv
      go_wp2_with fail
      refine H2.out.mono ?_
      rintro e w3 ⟨rfl, rfl⟩
      clear H2
      go_wp2_with fail
      go_ret
      exact ⟨by rw [Hv.out]; rfl, hE12⟩
    · have e1 : decide (Ps = Ps') = false := decide_eq_false hP
      rw [e1]
      have hv := sigEq_no (x := x) (y := x) (Qs := Qs) (Qs' := Qs') (fun h => hP h.2.1)
      have Hv := Lib.hid hv
      clear e1 hv
      go_wp2_with fail
      go_ret
      exact ⟨by rw [Hv.out]; rfl, hE12⟩
  · have hv := sigEq_no (x := x) (y := y) (Ps := Ps) (Ps' := Ps') (Qs := Qs) (Qs' := Qs') (fun h => hx h.1)
    have Hv := Lib.hid hv
    clear hv
    go_wp2_with fail
    go_ret
    exact ⟨by rw [Hv.out]; rfl, hE12⟩
end Go.Proofs.Ytmgnigofilkfmab
namespace Go.Proofs.Ytmgnigofilkfmab
set_option maxRecDepth 100000
open Go Go.RowKit
theorem rtake_ok {L : List UInt8} {bad : Bool} {z : Nat} (h : (rtake L bad z).2.2 = false) : bad = false ∧ z ≤ L.length ∧ (rtake L bad z).2.1 = L.drop z ∧ (rtake L bad z).1 = L.take z := by
  unfold rtake at h ⊢
  by_cases hc : bad = true ∨ (z : Int) < 0 ∨ (L.length : Int) < z
  · rw [if_pos hc] at h; cases h
  · rw [if_neg hc]
    have hb : bad = false := by
      cases bad with
      | false => rfl
      | true => exact absurd (.inl rfl) hc
    refine ⟨hb, by omega, rfl, rfl⟩
theorem someS_ok (s : List UInt8 × Bool) : ∀ n, (someS s n).2 = false → s.2 = false ∧ 32 * n ≤ s.1.length ∧ (someS s n).1 = s.1.drop (32 * n) := by
  intro n
  induction n with
  | zero => intro h; exact ⟨h, by omega, by simp [someS]⟩
  | succ n ih =>
    intro h
    have h' : (rtake (someS s n).1 (someS s n).2 ((32 : Nat) : Int)).2.2 = false := h
    obtain ⟨h1, h2, h3, _⟩ := rtake_ok h'
    obtain ⟨i1, i2, i3⟩ := ih h1
    rw [i3, List.length_drop] at h2
    refine ⟨i1, by omega, ?_⟩
    have h4 : (someS s (n + 1)).1 = (rtake (someS s n).1 (someS s n).2 ((32 : Nat) : Int)).2.1 := rfl
    rw [h4, h3, i3, List.drop_drop]
    congr 1
theorem decOK5_len {L : List UInt8} (h : decOK5 L = true) : L.length = 2180 := by
  unfold decOK5 at h
  simp only [Bool.and_eq_true, Bool.not_eq_true', List.isEmpty_iff] at h
  obtain ⟨⟨h1, h2⟩, _⟩ := h
  obtain ⟨a1, a2, a3⟩ := someS_ok (dS2 L) 4 h1
  obtain ⟨b1, b2, b3⟩ := someS_ok (dS1 L) 64 a1
  have h' : (rtake L false ((4 : Nat) : Int)).2.2 = false := b1
  obtain ⟨_, c2, c3, _⟩ := rtake_ok h'
  have c4 : (dS1 L).1 = L.drop 4 := c3
  have d1 : (dS2 L).1 = (dS1 L).1.drop (32 * 64) := b3
  have d2 : (dS3 L).1 = (dS2 L).1.drop (32 * 4) := a3
  have e : ((dS3 L).1).length = 0 := by rw [h2]; rfl
  rw [d2, d1, c4, List.length_drop, List.length_drop, List.length_drop] at e
  rw [d1, c4, List.length_drop, List.length_drop] at a2
  rw [c4, List.length_drop] at b2
  omega
theorem ssign_arg (A B : Option Addr) (n c m e' : Nat) (key : Int) (w : World) (h : n ≠ 32) :
    Calls Try.prog 32 #[.slice A n c, .int .i64 key, .slice B m e'] w fun e w' => e = .returned (.tuple #[.agg #[.int .i64 0, .slice none 0 0, .slice none 0 0], .int .i64 1]) ∧ Ext w w' := by
  have hn : ¬ ((n : Int) = 32) := by omega
  have hB6 := Blk.new w 52 #[.int .i64 0, .slice none 0 0, .slice none 0 0]
  have hE := Ext.new w (.cells #[.int .i64 0, .slice none 0 0, .slice none 0 0] 52)
  go_enter Try.func32, Try.ntmps32
  go_wp2_with fail
  refine bodyPost_ret (results_sig rfl _ _ w.heap.size _ _ _ rfl hB6 Try.underlying52 rfl rfl) rfl ?_
  exact ⟨rfl, hE⟩
theorem Runs.lit5m {o : Oper} {ρ : Operand → Value} {w : World} {G : Value → World → Prop} (ho : o.op = .buildSlice 22 5 #[(0, .const (.int .u8 115)), (1, .const (.int .u8 104)), (2, .const (.int .u8 111)), (3, .const (.int .u8 114)), (4, .const (.int .u8 116))])
    (h0 : ∀ v, ρ (.const v) = v) (h : ∀ w', Ext w w' → OB w' w.heap.size (some ⟨w.heap.size, 0, none⟩) 5 5 [115, 104, 111, 114, 116] → G (.slice (some ⟨w.heap.size, 0, none⟩) 5 5) w') : Runs Try.prog o ρ w G := by
  refine Runs.of_run (r := .slice (some ⟨w.heap.size, 0, none⟩) 5 5) (w' := w.alloc (.cells (bv [115, 104, 111, 114, 116]).toArray 5)) ?_ (h _ (Ext.new w _) (OB.lit w [115, 104, 111, 114, 116] rfl (small_maxLen (by decide))))
  unfold execOp
  simp only [ho, h0, List.map_toArray, List.map_cons, List.map_nil]
  go_simp
  rfl
def UpN (w1 : World) (n : Nat) (i : Value) (wr : World) : Prop := ∃ k : Nat, k ≤ n ∧ i = .int .i64 k ∧ Ext w1 wr
set_option maxHeartbeats 16000000 in
theorem snumbers_law (w : World) : Calls Try.prog 13 #[] w fun e w' => e = .returned (.bool true) ∧ Ext w w' := by
  go_enter Try.func13, Try.ntmps13
  go_wp2_with fail
  refine (seed_any 0 w (by omega) (by omega)).mono ?_
  rintro e w1 ⟨A1, c1, rfl, own1, hE1⟩
  generalize seedL 0 = S at *
  go_wp2_with fail
  refine (rnew_any A1 c1 S w1 own1.rb).mono ?_
  rintro e w2 ⟨g1, rfl, o1, hE2⟩
  have hE12 := hE1.trans hE2
  have o1' := o1
  obtain ⟨A, c, LA, lc, rS, hB, _⟩ := o1'
  have y0 := hB.cell (i := 0) (v := .slice A 32 c) rfl
  clear own1 hE1 hE2
  go_wp2_with fail
  refine (spublic_any A c S w2 rS).mono ?_
  rintro e w3 ⟨A3, c3, rfl, own3, hE3⟩
  have rP3 := own3.rb
  have o3 := o1.ext hE3
  have hE13 := hE12.trans hE3
  clear y0 own3
  go_upto_region 3 with (fail)
  refine par_mk (n := 13) (by kernel_rfl) [.is (.slice (A3) (32) (c3)), .is (.string (str (ownP S))), .is (.pointer (some ⟨g1, 0, none⟩)), .rbm (ownP S), .is (.string (str (ownP S))), .is (.bool (false)), .is (.bool (false)), .lit (w3.heap.size) 5 ([115, 104, 111, 114, 116]), .rbk (5) ([115, 104, 111, 114, 116]), .is (.slice (none) (0) (0)), .is (.int .i64 ((0 : Nat))), .is (.bool (false)), .is (.bool (false))] rfl ⟨?_, ?_, ?_, ?_, ?_, ?_, ?_, ?_, ?_, ?_, ?_, ?_, ?_, trivial⟩ ?_
  · refine stepEM rfl fun sdn sa sw sE sd sk => ?_
    have h2 : sa.eval (.tmp 2) = .slice (A3) (32) (c3) := sk.old 2 rfl
    exact Runs.move rfl h2 ⟨Ext.refl _, rfl⟩
  · refine stepEM rfl fun sdn sa sw sE sd sk => ?_
    have h21 : sa.eval (.tmp 21) = .slice (A3) (32) (c3) := sk.fact 0 21 rfl (sd 0 rfl)
    exact Runs.conv rfl h21 (run_str (rP3.ext sE)) ⟨Ext.refl _, rfl⟩
  · refine stepEM rfl fun sdn sa sw sE sd sk => ?_
    have h1 : sa.eval (.tmp 1) = .pointer (some ⟨g1, 0, none⟩) := sk.old 1 rfl
    exact Runs.move rfl h1 ⟨Ext.refl _, rfl⟩
  · refine stepEM rfl fun sdn sa sw sE sd sk => ?_
    have h23 : sa.eval (.tmp 23) = .pointer (some ⟨g1, 0, none⟩) := sk.fact 2 23 rfl (sd 2 rfl)
    refine Runs.call (f := 37) (vs := [.pointer (some ⟨g1, 0, none⟩)]) rfl rfl rfl (by simp only [List.map_toArray, List.map_cons, List.map_nil, h23] <;> rfl) (ent37 _ _) ((rpublic_any g1 _ S sw (o3.ext sE)).mono ?_); rintro e w' ⟨A', c', rfl, own, hx⟩; exact ⟨_, rfl, hx, A', 32, c', rfl, own⟩
  · refine stepEM rfl fun sdn sa sw sE sd sk => ?_
    obtain ⟨A24, n24, c24, h24, r24⟩ := sk.fact 3 24 rfl (sd 3 rfl)
    exact Runs.conv rfl h24 (run_str r24) ⟨Ext.refl _, rfl⟩
  · refine stepEM rfl fun sdn sa sw sE sd sk => ?_
    have h22 : sa.eval (.tmp 22) = .string (str (ownP S)) := sk.fact 1 22 rfl (sd 1 rfl)
    have h25 : sa.eval (.tmp 25) = .string (str (ownP S)) := sk.fact 4 25 rfl (sd 4 rfl)
    exact Runs.bin rfl h22 h25 (by rfl) (bin_nes _ _ _) ⟨Ext.refl _, congrArg Value.bool (by simp)⟩
  · refine stepEM rfl fun sdn sa sw sE sd sk => ?_
    have h26 : sa.eval (.tmp 26) = .bool (false) := sk.fact 5 26 rfl (sd 5 rfl)
    exact Runs.move rfl h26 ⟨Ext.refl _, rfl⟩
  · refine stepYM (j := 6) (d := 27) (b := false) rfl rfl rfl (fun v w h => h) fun sdn sa sw sE sd sk => ?_
    exact Runs.lit5m rfl (fun v => rfl) (fun w1 e1 o1 => ⟨e1, _, rfl, o1.rb, o1.shape, sE.size, (o1.lt (k := _) rfl).2⟩)
  · refine stepYK (j := 6) (d := 27) (b := false) rfl rfl rfl (fun v w h => h) fun sdn sa sw sE sd sk => ?_
    obtain ⟨g28, h28, r28, s28, b28, l28⟩ := sk.fact 7 28 rfl (sd 7 rfl)
    exact Runs.conv_w rfl h28 (run_mark sw _ _ g28 5 5 5 Try.underlying22 Try.underlying5 s28) ⟨⟨Mk.freeze _ _ _, sE.freeze b28⟩, _, _, rfl, r28.mk_ (Mk.freeze _ _ _)⟩
  · refine stepYM (j := 6) (d := 27) (b := false) rfl rfl rfl (fun v w h => h) fun sdn sa sw sE sd sk => ?_
    obtain ⟨A29, c29, h29, r29⟩ := sk.fact 8 29 rfl (sd 8 rfl)
    refine Runs.call (f := 31) (vs := [.slice (A29) (5) (c29)]) rfl rfl rfl (by simp only [List.map_toArray, List.map_cons, List.map_nil, h29] <;> rfl) (ent31 _ _) ((spublic_none _ _ _ sw (by decide)).mono ?_); rintro e w' ⟨rfl, hx⟩; exact ⟨_, rfl, hx, rfl⟩
  · refine stepYM (j := 6) (d := 27) (b := false) rfl rfl rfl (fun v w h => h) fun sdn sa sw sE sd sk => ?_
    have h30 : sa.eval (.tmp 30) = .slice (none) (0) (0) := sk.fact 9 30 rfl (sd 9 rfl)
    exact Runs.len Try.underlying22 rfl h30 ⟨Ext.refl _, rfl⟩
  · refine stepYM (j := 6) (d := 27) (b := false) rfl rfl rfl (fun v w h => h) fun sdn sa sw sE sd sk => ?_
    have h31 : sa.eval (.tmp 31) = .int .i64 ((0 : Nat)) := sk.fact 10 31 rfl (sd 10 rfl)
    exact Runs.bin rfl h31 rfl (by rfl) (bin_neq _ _ _ _) ⟨Ext.refl _, congrArg Value.bool (by decide)⟩
  · refine stepEM rfl fun sdn sa sw sE sd sk => ?_
    have h27 : sa.eval (.tmp 27) = .bool (false) := sk.fact 6 27 rfl (sd 6 rfl)
    have h32 : sa.eval (.tmp 32) = .bool (false) := sk.fact 11 32 rfl (sd 11 rfl)
    exact Runs.pick rfl h27 ⟨Ext.refl _, by first | exact h32 | simpa using h32⟩
  intro vals w4 hE4 hv4
  have e0 : vals 0 = .slice (A3) (32) (c3) := hv4 0 (by omega) 21 rfl
  have e1 : vals 1 = .string (str (ownP S)) := hv4 1 (by omega) 22 rfl
  have e2 : vals 2 = .pointer (some ⟨g1, 0, none⟩) := hv4 2 (by omega) 23 rfl
  obtain ⟨A24, n24, c24, e3, r24⟩ := hv4 3 (by omega) 24 rfl
  have e4 : vals 4 = .string (str (ownP S)) := hv4 4 (by omega) 25 rfl
  have e5 : vals 5 = .bool (false) := hv4 5 (by omega) 26 rfl
  have e6 : vals 6 = .bool (false) := hv4 6 (by omega) 27 rfl
  obtain ⟨g28, e7, r28, s28, b28, l28⟩ := hv4 7 (by omega) 28 rfl
  obtain ⟨A29, c29, e8, r29⟩ := hv4 8 (by omega) 29 rfl
  have e9 : vals 9 = .slice (none) (0) (0) := hv4 9 (by omega) 30 rfl
  have e10 : vals 10 = .int .i64 ((0 : Nat)) := hv4 10 (by omega) 31 rfl
  have e11 : vals 11 = .bool (false) := hv4 11 (by omega) 32 rfl
  have e12 : vals 12 = .bool (false) := hv4 12 (by omega) 33 rfl
  simp only [putAll, Act.put, List.take_succ_cons, List.take_zero, List.drop_succ_cons, List.drop_zero, List.drop_nil, List.take_nil, Nat.reduceAdd, List.setIfInBounds_toArray, List.set_cons_succ, List.set_cons_zero, e0, e1, e2, e3, e4, e5, e6, e7, e8, e9, e10, e11, e12]
  clear hv4 e0 e1 e2 e3 e4 e5 e6 e7 e8 e9 e10 e11 e12
  have hE14 := hE13.trans hE4
  have o4 := o3.ext hE4
  have rP := rP3.ext hE4
  have rS := rS.ext (hE3.trans hE4)
  have hB := hB.ext (hE3.trans hE4)
  clear o3 rP3 hE13 hE4 hE12 hE3 o1
  go_wp2_with fail
  have e0 : ((0 : Nat) : Int) = 0 := rfl
  simp only [e0]
  clear e0
  go_loopw [3] (fun i wr => UpN w4 16 i wr) (fun i _ => 16 - (intOf i).toNat)
  case atStart => exact ⟨0, by omega, rfl, Ext.refl _⟩
  case round =>
    obtain ⟨k, hk, rfl, hEr⟩ := hrel
    by_cases hlt : k < 16
    · have hki : (k : Int) < 16 := by omega
      have hcb := fun w' => conv_byte (P := Try.prog) (w := w') Try.underlying3 Try.underlying5 (k : Int)
      have hBr := hB.ext hEr
      have rSr := rS.ext hEr
      have hEl := Ext.new wr (.cells #[.int .u8 (u8i (byteI (k : Int)))] 5)
      have rM := RB.lit wr [byteI (k : Int)] (n := 1) rfl (small_maxLen (by decide))
      have rM : RB (wr.alloc (.cells #[.int .u8 (u8i (byteI (k : Int)))] 5)) (some ⟨wr.heap.size, 0, none⟩) 1 1 [byteI (k : Int)] := rM
      have y0 := (hBr.ext hEl).cell (i := 0) (v := .slice A 32 c) rfl
      obtain ⟨M, hM⟩ : ∃ M, M = [byteI (k : Int)] := ⟨_, rfl⟩
      rw [← hM] at rM
      have hv3 := verB_own S M k hlt
      have hpl := partsS_32 (digestW M) S (k : Int)
      have hql := pathL_32 S hlt
      obtain ⟨PS, hPS⟩ : ∃ PS, PS = (List.range 64).map (partS (digestW M) S (k : Int)) := ⟨_, rfl⟩
      obtain ⟨QS, hQS⟩ : ∃ QS, QS = pathL S k := ⟨_, rfl⟩
      have HPS := Lib.hid hPS
      have HQS := Lib.hid hQS
      rw [← hPS, ← hQS] at hv3
      rw [← hPS] at hpl
      rw [← hQS] at hql
      have Hv3 := Lib.hid hv3
      have Hpl := Lib.hid hpl
      have Hql := Lib.hid hql
      have hsg := ssign_any A (some ⟨wr.heap.size, 0, none⟩) c 1 1 k S M _ (rSr.ext hEl) rM (by omega) hlt
      rw [← hPS, ← hQS] at hsg
      have Hsg := Lib.hid hsg
      clear hM hv3 hpl hql hPS hQS hBr rSr hsg
      go_wp2_with fail
      refine Hsg.out.mono ?_
      rintro e w5 ⟨P, d, Q', d', rfl, rPs, rQs, hE5⟩
      clear Hsg hcb y0
      have hE6 := Ext.new w5 (.cells #[.int .i64 (k : Int), .slice P 64 d, .slice Q' 4 d'] 52)
      have hB6 := Blk.new w5 52 #[.int .i64 (k : Int), .slice P 64 d, .slice Q' 4 d']
      have hEl6 := hE5.trans hE6
      have hEr6 := (hEr.trans hEl).trans hEl6
      have o1 := o4.ext hEr6
      have rPr := rP.ext hEr6
      have rM := rM.ext hEl6
      have rPs := rPs.ext hE6
      have rQs := rQs.ext hE6
      clear hEl hEl6 hE5 hE6 hEr
      go_upto_region 10 with (fail)
      generalize w5.alloc (.cells #[.int .i64 (k : Int), .slice P 64 d, .slice Q' 4 d'] 52) = w6 at *
      refine par_ext (n := 18) (by kernel_rfl) [.is (.int .i64 ((0 : Int))), .is (.bool (false)), .is (.bool (false)), .is (.agg #[.int .i64 (k : Int), .slice P 64 d, .slice Q' 4 d']), .is (.pointer (some ⟨g1, 0, none⟩)), .is (.int .i64 (((k : Nat) : Int))), .is (.slice (some ⟨wr.heap.size, 0, none⟩) (1) (1)), .sg (k : Int) 64 4 PS QS, .is (.bool (true)), .is (.bool (false)), .is (.bool (false)), .is (.bool (false)), .is (.slice (A3) (32) (c3)), .is (.slice (some ⟨wr.heap.size, 0, none⟩) (1) (1)), .is (.agg #[.int .i64 (k : Int), .slice P 64 d, .slice Q' 4 d']), .is (.bool (true)), .is (.bool (false)), .is (.bool (false))] rfl ⟨?_, ?_, ?_, ?_, ?_, ?_, ?_, ?_, ?_, ?_, ?_, ?_, ?_, ?_, ?_, ?_, ?_, ?_, trivial⟩ ?_
      · refine stepE rfl fun sdn sa sw sE sd sk => ?_
        have h6 : sa.eval (.tmp 6) = .int .i64 ((0 : Int)) := sk.old 6 rfl
        exact Runs.move rfl h6 ⟨Ext.refl _, rfl⟩
      · refine stepE rfl fun sdn sa sw sE sd sk => ?_
        have h51 : sa.eval (.tmp 51) = .int .i64 ((0 : Int)) := sk.fact 0 51 rfl (sd 0 rfl)
        exact Runs.bin rfl h51 rfl (by rfl) (bin_neq _ _ _ _) ⟨Ext.refl _, congrArg Value.bool (by decide)⟩
      · refine stepE rfl fun sdn sa sw sE sd sk => ?_
        have h52 : sa.eval (.tmp 52) = .bool (false) := sk.fact 1 52 rfl (sd 1 rfl)
        exact Runs.move rfl h52 ⟨Ext.refl _, rfl⟩
      · refine stepY (j := 2) (d := 53) (b := false) rfl rfl rfl (fun v w h => h) fun sdn sa sw sE sd sk => ?_
        have h5 : sa.eval (.tmp 5) = .pointer (some ⟨w5.heap.size, 0, none⟩) := sk.old 5 rfl
        exact Runs.load rfl h5 (load_sig (hB6.ext sE)) ⟨Ext.refl _, rfl⟩
      · refine stepY (j := 2) (d := 53) (b := false) rfl rfl rfl (fun v w h => h) fun sdn sa sw sE sd sk => ?_
        have h1 : sa.eval (.tmp 1) = .pointer (some ⟨g1, 0, none⟩) := sk.old 1 rfl
        exact Runs.move rfl h1 ⟨Ext.refl _, rfl⟩
      · refine stepY (j := 2) (d := 53) (b := false) rfl rfl rfl (fun v w h => h) fun sdn sa sw sE sd sk => ?_
        have h3 : sa.eval (.tmp 3) = .int .i64 (((k : Nat) : Int)) := sk.old 3 rfl
        exact Runs.move rfl h3 ⟨Ext.refl _, rfl⟩
      · refine stepY (j := 2) (d := 53) (b := false) rfl rfl rfl (fun v w h => h) fun sdn sa sw sE sd sk => ?_
        have h4 : sa.eval (.tmp 4) = .slice (some ⟨wr.heap.size, 0, none⟩) (1) (1) := sk.old 4 rfl
        exact Runs.move rfl h4 ⟨Ext.refl _, rfl⟩
      · refine stepY (j := 2) (d := 53) (b := false) rfl rfl rfl (fun v w h => h) fun sdn sa sw sE sd sk => ?_
        have h55 : sa.eval (.tmp 55) = .pointer (some ⟨g1, 0, none⟩) := sk.fact 4 55 rfl (sd 4 rfl)
        have h56 : sa.eval (.tmp 56) = .int .i64 (((k : Nat) : Int)) := sk.fact 5 56 rfl (sd 5 rfl)
        have h57 : sa.eval (.tmp 57) = .slice (some ⟨wr.heap.size, 0, none⟩) (1) (1) := sk.fact 6 57 rfl (sd 6 rfl)
        refine Runs.call (f := 36) (vs := [.pointer (some ⟨g1, 0, none⟩), .int .i64 (((k : Nat) : Int)), .slice (some ⟨wr.heap.size, 0, none⟩) (1) (1)]) rfl rfl rfl (by simp only [List.map_toArray, List.map_cons, List.map_nil, h55, h56, h57] <;> rfl) (ent36 _ _) ((rsign_any _ g1 _ _ _ k S M sw (o1.ext sE) (rM.ext sE) (by omega) (by omega)).mono ?_); rintro e w' ⟨P', d', Q', e', rfl, h1, h2, hx⟩; exact ⟨_, rfl, hx, P', d', Q', e', rfl, HPS.out.symm ▸ h1, HQS.out.symm ▸ h2⟩
      · refine stepY (j := 2) (d := 53) (b := false) rfl rfl rfl (fun v w h => h) fun sdn sa sw sE sd sk => ?_
        have h54 : sa.eval (.tmp 54) = .agg #[.int .i64 (k : Int), .slice P 64 d, .slice Q' 4 d'] := sk.fact 3 54 rfl (sd 3 rfl)
        obtain ⟨P58, d58, Q58, e58, h58, r58, q58⟩ := sk.fact 7 58 rfl (sd 7 rfl)
        refine Runs.call (f := 39) (vs := [.agg #[.int .i64 (k : Int), .slice P 64 d, .slice Q' 4 d'], .agg #[.int .i64 (k : Int), .slice P58 64 d58, .slice Q58 4 e58]]) rfl rfl rfl (by simp only [List.map_toArray, List.map_cons, List.map_nil, h54, h58] <;> rfl) (ent39 _ _) ((rsame_true _ _ _ _ _ _ _ _ _ _ _ _ _ _ _ sw (rPs.ext sE) (rQs.ext sE) r58 q58).mono ?_); rintro e w' ⟨rfl, hx⟩; exact ⟨_, rfl, hx, rfl⟩
      · refine stepY (j := 2) (d := 53) (b := false) rfl rfl rfl (fun v w h => h) fun sdn sa sw sE sd sk => ?_
        have h59 : sa.eval (.tmp 59) = .bool (true) := sk.fact 8 59 rfl (sd 8 rfl)
        exact Runs.un rfl h59 (by rfl) ⟨Ext.refl _, rfl⟩
      · refine stepE rfl fun sdn sa sw sE sd sk => ?_
        have h53 : sa.eval (.tmp 53) = .bool (false) := sk.fact 2 53 rfl (sd 2 rfl)
        have h60 : sa.eval (.tmp 60) = .bool (false) := sk.fact 9 60 rfl (sd 9 rfl)
        exact Runs.pick rfl h53 ⟨Ext.refl _, by first | exact h60 | simpa using h60⟩
      · refine stepE rfl fun sdn sa sw sE sd sk => ?_
        have h61 : sa.eval (.tmp 61) = .bool (false) := sk.fact 10 61 rfl (sd 10 rfl)
        exact Runs.move rfl h61 ⟨Ext.refl _, rfl⟩
      · refine stepY (j := 11) (d := 62) (b := false) rfl rfl rfl (fun v w h => h) fun sdn sa sw sE sd sk => ?_
        have h2 : sa.eval (.tmp 2) = .slice (A3) (32) (c3) := sk.old 2 rfl
        exact Runs.move rfl h2 ⟨Ext.refl _, rfl⟩
      · refine stepY (j := 11) (d := 62) (b := false) rfl rfl rfl (fun v w h => h) fun sdn sa sw sE sd sk => ?_
        have h4 : sa.eval (.tmp 4) = .slice (some ⟨wr.heap.size, 0, none⟩) (1) (1) := sk.old 4 rfl
        exact Runs.move rfl h4 ⟨Ext.refl _, rfl⟩
      · refine stepY (j := 11) (d := 62) (b := false) rfl rfl rfl (fun v w h => h) fun sdn sa sw sE sd sk => ?_
        have h5 : sa.eval (.tmp 5) = .pointer (some ⟨w5.heap.size, 0, none⟩) := sk.old 5 rfl
        exact Runs.load rfl h5 (load_sig (hB6.ext sE)) ⟨Ext.refl _, rfl⟩
      · refine stepY (j := 11) (d := 62) (b := false) rfl rfl rfl (fun v w h => h) fun sdn sa sw sE sd sk => ?_
        have h63 : sa.eval (.tmp 63) = .slice (A3) (32) (c3) := sk.fact 12 63 rfl (sd 12 rfl)
        have h64 : sa.eval (.tmp 64) = .slice (some ⟨wr.heap.size, 0, none⟩) (1) (1) := sk.fact 13 64 rfl (sd 13 rfl)
        have h65 : sa.eval (.tmp 65) = .agg #[.int .i64 (k : Int), .slice P 64 d, .slice Q' 4 d'] := sk.fact 14 65 rfl (sd 14 rfl)
        refine Runs.call (f := 33) (vs := [.slice (A3) (32) (c3), .slice (some ⟨wr.heap.size, 0, none⟩) (1) (1), .agg #[.int .i64 (k : Int), .slice P 64 d, .slice Q' 4 d']]) rfl rfl rfl (by simp only [List.map_toArray, List.map_cons, List.map_nil, h63, h64, h65] <;> rfl) (ent33 _ _) ((sverify_any _ _ P Q' _ _ _ _ 64 d 4 d' (k : Int) _ M PS QS sw (rPr.ext sE) (rM.ext sE) (by omega) (rPs.ext sE) (rQs.ext sE)).mono ?_); rintro e w' ⟨rfl, hx⟩; exact ⟨_, rfl, hx, congrArg Value.bool (Hv3.out)⟩
      · refine stepY (j := 11) (d := 62) (b := false) rfl rfl rfl (fun v w h => h) fun sdn sa sw sE sd sk => ?_
        have h66 : sa.eval (.tmp 66) = .bool (true) := sk.fact 15 66 rfl (sd 15 rfl)
        exact Runs.un rfl h66 (by rfl) ⟨Ext.refl _, rfl⟩
      · refine stepE rfl fun sdn sa sw sE sd sk => ?_
        have h62 : sa.eval (.tmp 62) = .bool (false) := sk.fact 11 62 rfl (sd 11 rfl)
        have h67 : sa.eval (.tmp 67) = .bool (false) := sk.fact 16 67 rfl (sd 16 rfl)
        exact Runs.pick rfl h62 ⟨Ext.refl _, by first | exact h67 | simpa using h67⟩
      intro vals w7 hE7 hv7
      have e0 : vals 0 = .int .i64 ((0 : Int)) := hv7 0 (by omega) 51 rfl
      have e1 : vals 1 = .bool (false) := hv7 1 (by omega) 52 rfl
      have e2 : vals 2 = .bool (false) := hv7 2 (by omega) 53 rfl
      have e3 : vals 3 = .agg #[.int .i64 (k : Int), .slice P 64 d, .slice Q' 4 d'] := hv7 3 (by omega) 54 rfl
      have e4 : vals 4 = .pointer (some ⟨g1, 0, none⟩) := hv7 4 (by omega) 55 rfl
      have e5 : vals 5 = .int .i64 (((k : Nat) : Int)) := hv7 5 (by omega) 56 rfl
      have e6 : vals 6 = .slice (some ⟨wr.heap.size, 0, none⟩) (1) (1) := hv7 6 (by omega) 57 rfl
      obtain ⟨P58, d58, Q58, e58, e7, r58, q58⟩ := hv7 7 (by omega) 58 rfl
      have e8 : vals 8 = .bool (true) := hv7 8 (by omega) 59 rfl
      have e9 : vals 9 = .bool (false) := hv7 9 (by omega) 60 rfl
      have e10 : vals 10 = .bool (false) := hv7 10 (by omega) 61 rfl
      have e11 : vals 11 = .bool (false) := hv7 11 (by omega) 62 rfl
      have e12 : vals 12 = .slice (A3) (32) (c3) := hv7 12 (by omega) 63 rfl
      have e13 : vals 13 = .slice (some ⟨wr.heap.size, 0, none⟩) (1) (1) := hv7 13 (by omega) 64 rfl
      have e14 : vals 14 = .agg #[.int .i64 (k : Int), .slice P 64 d, .slice Q' 4 d'] := hv7 14 (by omega) 65 rfl
      have e15 : vals 15 = .bool (true) := hv7 15 (by omega) 66 rfl
      have e16 : vals 16 = .bool (false) := hv7 16 (by omega) 67 rfl
      have e17 : vals 17 = .bool (false) := hv7 17 (by omega) 68 rfl
      simp only [putAll, Act.put, List.take_succ_cons, List.take_zero, List.drop_succ_cons, List.drop_zero, List.drop_nil, List.take_nil, Nat.reduceAdd, List.setIfInBounds_toArray, List.set_cons_succ, List.set_cons_zero, e0, e1, e2, e3, e4, e5, e6, e7, e8, e9, e10, e11, e12, e13, e14, e15, e16, e17]
      clear hv7 e0 e1 e2 e3 e4 e5 e6 e7 e8 e9 e10 e11 e12 e13 e14 e15 e16 e17
      have hEr7 := hEr6.trans hE7
      have hB7 := hB6.ext hE7
      have rPr := rPr.ext hE7
      have rM := rM.ext hE7
      have rPs := rPs.ext hE7
      have rQs := rQs.ext hE7
      clear hEr6 hB6 o1 hE7
      obtain ⟨gM, hgM⟩ : ∃ gM : Option Addr, gM = some ⟨wr.heap.size, 0, none⟩ := ⟨_, rfl⟩
      rw [← hgM] at rM ⊢
      clear hgM
      go_wp2_with fail
      go_loopw [7] (fun i wr => UpN w7 9 i wr) (fun i _ => 9 - (intOf i).toNat)
      case atStart => exact ⟨0, by omega, rfl, Ext.refl _⟩
      case round =>
        obtain ⟨h, hh, rfl, hE8⟩ := hrel
        by_cases hlt2 : h < 9
        · have hhi : (h : Int) < 9 := by omega
          have hB8 := hB7.ext hE8
          have z0 := hB8.cell (i := 0) (v := .int .i64 (k : Int)) rfl
          have z1 := hB8.cell (i := 1) (v := .slice P 64 d) rfl
          have z2 := hB8.cell (i := 2) (v := .slice Q' 4 d') rfl
          have htu := turned5_any (k : Int) (k : Int) (h : Int) P Q' d d' 1 PS QS wr (rPs.ext hE8) (rQs.ext hE8) Hpl.out Hql.out (by omega) (by omega) (by omega)
          have e1 : u8i 1 = 1 := rfl
          rw [e1] at htu
          have Htu := Lib.hid htu
          clear htu e1 hB8
          go_wp2_with fail
          refine Htu.out.mono ?_
          rintro e w9 ⟨x', P9, n9, d9, Q9, m9, e9, Ps9, Qs9, rfl, r9, q9, _, hE9⟩
          clear Htu z0 z1 z2
          have hE79 := hE8.trans hE9
          go_wp2_with fail
          refine (same5_any gM A3 P9 Q9 1 1 32 c3 n9 d9 m9 e9 x' _ M Ps9 Qs9 w9 (rPr.ext hE79) (rM.ext hE79) (by omega) r9 q9).mono ?_
          rintro e w10 ⟨rfl, hE10⟩
          go_wp2_with fail
          go_roundw
          case rel => exact ⟨h + 1, by omega, by go_num, hE79.trans hE10⟩
          case measure => simp [intOf]; omega
        · obtain rfl : h = 9 := by omega
          go_wp2_with fail
          go_roundw
          case rel => exact ⟨k + 1, by omega, by go_num, hEr7.trans hE8⟩
          case measure => simp [intOf]; omega
    · obtain rfl : k = 16 := by omega
      have es : (#[.int .u8 115, .int .u8 104, .int .u8 111, .int .u8 114, .int .u8 116] : Array Value).size = 5 := rfl
      have s0 := Lib.run_convert_bytes_const (P := Try.prog) wr 22 5 #[.int .u8 115, .int .u8 104, .int .u8 111, .int .u8 114, .int .u8 116] 5 5 Try.underlying22 Try.underlying5
      rw [es] at s0
      have hEc := Ext.new wr (.cells #[.int .u8 115, .int .u8 104, .int .u8 111, .int .u8 114, .int .u8 116] 5 (5, 5 + 1))
      go_wp2_with fail
      refine (ssign_arg _ _ 5 5 _ _ 0 _ (by decide)).mono ?_
      rintro e w5 ⟨rfl, hE5⟩
      clear s0 es
      have hE6 := Ext.new w5 (.cells #[.int .i64 0, .slice none 0 0, .slice none 0 0] 52)
      have hEr6 := ((hEr.trans hEc).trans hE5).trans hE6
      have hB6 := hB.ext hEr6
      have y0 := hB6.cell (i := 0) (v := .slice A 32 c) rfl
      clear hEr hEc hE5 hE6 hB6
      go_wp2_with fail
      refine (ssign_used A none c 0 0 (-1) _ (.inl (by omega))).mono ?_
      rintro e w7 ⟨rfl, hE7⟩
      clear y0
      have hE8 := Ext.new w7 (.cells #[.int .i64 0, .slice none 0 0, .slice none 0 0] 52)
      have hEr8 := (hEr6.trans hE7).trans hE8
      clear hEr6 hE7 hE8
      go_wp2_with (refine make_law (k := 2179) rfl rfl rfl rfl (by omega) ?_; intro w9 own9 hE9)
      have own9 := own9.rb
      rw [World.size_alloc] at own9
      have hZl := own9.len
      generalize List.replicate 2179 (0 : UInt8) = Z at *
      have hdn : decOK5 Z = false := by
        rcases Bool.eq_false_or_eq_true (decOK5 Z) with hd | hd
        · have := (decOK5_len hd).symm.trans hZl; omega
        · exact hd
      have hsd := sdecode_any _ 2179 2179 Z w9 own9 (by omega)
      rw [hdn] at hsd
      have Hsd := Lib.hid hsd
      clear hsd hZl hdn
      refine Hsd.out.mono ?_
      rintro e w10 ⟨_, hno, hE10⟩
      obtain rfl := hno rfl
      clear hno own9 Hsd
      go_wp2_with fail
      have hE11 := Ext.new w10 (.cells #[.int .i64 0, .slice none 0 0, .slice none 0 0] 52)
      refine (known5_any _).mono ?_
      rintro e w12 ⟨rfl, hE12⟩
      go_wp2_with fail
      go_ret
      exact ⟨rfl, hE14.trans ((((hEr8.trans hE9).trans hE10).trans hE11).trans hE12)⟩
end Go.Proofs.Ytmgnigofilkfmab
namespace Go.Proofs.Ytmgnigofilkfmab
set_option maxRecDepth 100000
open Go Go.RowKit
theorem rtake_yes_ {L : List UInt8} {z : Nat} (h : z ≤ L.length) : rtake L false (z : Int) = (L.take z, L.drop z, false) := by
  unfold rtake
  rw [if_neg (by rintro (h1 | h1 | h1) <;> first | (cases h1; done) | omega)]
  rfl
theorem someS_yes (X : List UInt8) : ∀ n, 32 * n ≤ X.length → someS (X, false) n = (X.drop (32 * n), false) := by
  intro n
  induction n with
  | zero => intro _; simp [someS]
  | succ n ih =>
    intro h
    show (rtake (someS (X, false) n).1 (someS (X, false) n).2 ((32 : Nat) : Int)).2 = _
    rw [ih (by omega)]
    rw [rtake_yes_ (by rw [List.length_drop]; omega)]
    show ((X.drop (32 * n)).drop 32, false) = _
    rw [List.drop_drop]
    congr 2
theorem someP_yes (X : List UInt8) (k : Nat) (h : 32 * (k + 1) ≤ X.length) : someP (X, false) k = (X.drop (32 * k)).take 32 := by
  unfold someP
  rw [someS_yes X k (by omega)]
  show (rtake (X.drop (32 * k)) false ((32 : Nat) : Int)).1 = _
  rw [rtake_yes_ (by rw [List.length_drop]; omega)]
theorem dS1_yes {L : List UInt8} (h : L.length = 2180) : dS1 L = (L.drop 4, false) := by
  unfold dS1
  show (rtake L false ((4 : Nat) : Int)).2 = _
  rw [rtake_yes_ (by omega)]
theorem dS2_yes {L : List UInt8} (h : L.length = 2180) : dS2 L = (L.drop 2052, false) := by
  unfold dS2
  rw [dS1_yes h, someS_yes _ 64 (by rw [List.length_drop]; omega), List.drop_drop]
theorem dS3_yes {L : List UInt8} (h : L.length = 2180) : dS3 L = ([], false) := by
  unfold dS3
  rw [dS2_yes h, someS_yes _ 4 (by rw [List.length_drop]; omega), List.drop_drop, List.drop_eq_nil_of_le (by omega)]
theorem decP_at {L : List UInt8} (h : L.length = 2180) {i : Nat} (hi : i < 64) : lb (decP L) i = (L.drop (4 + 32 * i)).take 32 := by
  unfold decP
  rw [lb_range _ hi, dS1_yes h, someP_yes _ i (by rw [List.length_drop]; omega), List.drop_drop]
theorem decQ_at {L : List UInt8} (h : L.length = 2180) {i : Nat} (hi : i < 4) : lb (decQ L) i = (L.drop (2052 + 32 * i)).take 32 := by
  unfold decQ
  rw [lb_range _ hi, dS2_yes h, someP_yes _ i (by rw [List.length_drop]; omega), List.drop_drop]
theorem decX_nonneg (L : List UInt8) : 0 ≤ decX L := by unfold decX u32i; omega
theorem decOK5_iff (L : List UInt8) : decOK5 L = true ↔ refOK L := by
  constructor
  · intro h
    refine ⟨decOK5_len h, ?_⟩
    unfold decOK5 rightB at h
    simp only [Bool.and_eq_true, decide_eq_true_eq] at h
    exact h.2.1.1.2
  · rintro ⟨h, hx⟩
    unfold decOK5
    rw [dS3_yes h]
    have h1 : all32 (decP L) := by
      intro i hi
      have hi' : i < 64 := by simpa [decP] using hi
      rw [decP_at h hi', List.length_take, List.length_drop]
      omega
    have h2 : all32 (decQ L) := by
      intro i hi
      have hi' : i < 4 := by simpa [decQ] using hi
      rw [decQ_at h hi', List.length_take, List.length_drop]
      omega
    rw [right_yes (decX_nonneg L) hx (by simp [decP]) (by simp [decQ]) h1 h2]
    rfl
theorem flat_at : ∀ (Ls : List (List UInt8)), (∀ i, i < Ls.length → (lb Ls i).length = 32) → Ls.flatten.length = 32 * Ls.length ∧ ∀ i, i < Ls.length → (Ls.flatten.drop (32 * i)).take 32 = lb Ls i := by
  intro Ls
  induction Ls with
  | nil => intro _; exact ⟨rfl, fun i hi => by simp at hi⟩
  | cons X Ls ih =>
    intro h
    have hX : X.length = 32 := h 0 (by simp)
    obtain ⟨h1, h2⟩ := ih (fun i hi => h (i + 1) (by simp; omega))
    refine ⟨by rw [List.flatten_cons, List.length_append, hX, h1, List.length_cons]; omega, fun i hi => ?_⟩
    cases i with
    | zero =>
      rw [List.flatten_cons]
      show ((X ++ Ls.flatten).drop 0).take 32 = X
      rw [List.drop_zero, List.take_left' hX]
    | succ i =>
      rw [List.flatten_cons]
      have e : (X ++ Ls.flatten).drop (32 * (i + 1)) = Ls.flatten.drop (32 * i) := by
        rw [List.drop_append, hX, show 32 * (i + 1) - 32 = 32 * i from by omega, List.drop_eq_nil_of_le (by omega), List.nil_append]
      rw [e, h2 i (by simpa using hi)]
      rfl
theorem beNum_bytesOf (x : UInt32) : beNum (bytesOf x) = x := by
  rw [← beBytes_four]
  exact beNum_beBytes4 x
theorem list_of_lb {Ls Ms : List (List UInt8)} (hl : Ls.length = Ms.length) (h : ∀ j, j < Ls.length → lb Ls j = lb Ms j) : Ls = Ms := list_eq_lb hl h
theorem dec_enc5 {k : Nat} (hk : k < 16) {Ps Qs : List (List UInt8)} (hp : Ps.length = 64) (hq : Qs.length = 4) (hp32 : ∀ i, i < 64 → (lb Ps i).length = 32) (hq32 : ∀ i, i < 4 → (lb Qs i).length = 32) :
    refOK (encS (k : Int) Ps Qs) ∧ decX (encS (k : Int) Ps Qs) = (k : Int) ∧ decP (encS (k : Int) Ps Qs) = Ps ∧ decQ (encS (k : Int) Ps Qs) = Qs := by
  have hLs : (Ps ++ Qs).length = 68 := by rw [List.length_append, hp, hq]
  have hlb0 : ∀ i, i < 64 → lb (Ps ++ Qs) i = lb Ps i := by
    intro i hi
    unfold lb
    simp [List.getElem?_append_left (show i < Ps.length by omega)]
  have hlb1 : ∀ i, i < 4 → lb (Ps ++ Qs) (64 + i) = lb Qs i := by
    intro i hi
    unfold lb
    simp [List.getElem?_append_right (show Ps.length ≤ 64 + i by omega), hp]
  have h32 : ∀ i, i < (Ps ++ Qs).length → (lb (Ps ++ Qs) i).length = 32 := by
    intro i hi
    by_cases h : i < 64
    · rw [hlb0 i h]; exact hp32 i h
    · have := hlb1 (i - 64) (by omega)
      rw [show 64 + (i - 64) = i from by omega] at this
      rw [this]
      exact hq32 _ (by omega)
  obtain ⟨hfl, hfa⟩ := flat_at _ h32
  have hb4 : (bytesOf (keyW (k : Int))).length = 4 := bytesOf_length _
  have hl : (encS (k : Int) Ps Qs).length = 2180 := by unfold encS; rw [List.length_append, hb4, hfl, hLs]
  have hd : ∀ i, (encS (k : Int) Ps Qs).drop (4 + i) = (Ps ++ Qs).flatten.drop i := by
    intro i
    unfold encS
    rw [List.drop_append, hb4, show 4 + i - 4 = i from by omega, List.drop_eq_nil_of_le (by omega), List.nil_append]
  have hx : decX (encS (k : Int) Ps Qs) = (k : Int) := by
    unfold decX
    have e : (rtake (encS (k : Int) Ps Qs) false 4).1 = bytesOf (keyW (k : Int)) := by
      show (rtake (encS (k : Int) Ps Qs) false ((4 : Nat) : Int)).1 = _
      rw [rtake_yes_ (by omega)]
      unfold encS
      exact List.take_left' hb4
    rw [e, beNum_bytesOf]
    unfold keyW u32i
    rw [UInt32.toNat_ofNat']
    omega
  refine ⟨⟨hl, by rw [hx]; omega⟩, hx, list_of_lb (by rw [hp]; simp [decP]) (fun i hi => ?_), list_of_lb (by rw [hq]; simp [decQ]) (fun i hi => ?_)⟩
  · have hi' : i < 64 := by simpa [decP] using hi
    rw [decP_at hl hi', hd, hfa i (by omega), hlb0 i hi']
  · have hi' : i < 4 := by simpa [decQ] using hi
    rw [decQ_at hl hi', show 2052 + 32 * i = 4 + 32 * (64 + i) from by omega, hd, hfa (64 + i) (by omega), hlb1 i hi']
theorem xor_byte_ne {L : List UInt8} {t : UInt8} (hl : 0 < L.length) (ht : t ≠ 0) : L.set 0 (ub L 0 ^^^ t) ≠ L := by
  intro e
  have h1 : ub (L.set 0 (ub L 0 ^^^ t)) 0 = ub L 0 ^^^ t := by unfold ub; simp [hl]
  rw [e] at h1
  apply ht
  have h2 : ub L 0 ^^^ (ub L 0 ^^^ t) = t := by rw [← UInt8.xor_assoc, UInt8.xor_self, UInt8.zero_xor]
  rw [← h1, UInt8.xor_self] at h2
  exact h2.symm
end Go.Proofs.Ytmgnigofilkfmab

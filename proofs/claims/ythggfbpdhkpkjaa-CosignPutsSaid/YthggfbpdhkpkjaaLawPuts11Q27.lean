/-
  ref5.Decode, walked. What is written as a signature is read as that one; what is read is what the document reads. Plain theorems. check.Get, check.Decode, walked.
-/
import Derived.Test.YthggfbpdhkpkjaaLawPuts11Q24
import Derived.Test.YthggfbpdhkpkjaaLawPuts11Q26
import Derived.Test.YthggfbpdhkpkjaaLawPuts11Q25
import Derived.Test.YthggfbpdhkpkjaaLawPuts11Q23
namespace Go.Proofs.Ythggfbpdhkpkjaa
set_option maxRecDepth 100000
open Go Go.RowKit
theorem RR.blk_ {w : World} {base q : Nat} {L : List UInt8} {bad : Bool} (h : RR w base q L bad) : ∃ cs, Blk w q 98 cs ∧ ∀ (i : Nat) (x : Int), cs[i]? ≠ some (.int .u8 x) := by
  obtain ⟨A, n, c, At, B, h1, _⟩ := h
  exact ⟨_, h1, rd_no _ _ _ _ _⟩
theorem RR.row {w w' : World} {base q : Nat} {L : List UInt8} {bad : Bool} (h : RR w base q L bad) {P : Option Addr} {n c : Nat} {vs : List Value} (own : w.ownsRow base 22 1 (.slice P n c) n vs) (g : w.grownBy w' (blk P)) : RR w' base q L bad := by
  obtain ⟨A, n', c', At, B, h1, h2, h3, h4, h5, h6, h7, h8⟩ := h
  have hlt : ∀ k, blk P = some k → base ≤ k := fun k hk => (World.ownsRow.lt own k (by rw [ownBlock_slice]; exact hk)).1
  refine ⟨A, n', c', At, B, h1.grown g (fun e => ?_), h2.grown g (fun h0 e => ?_), h3, h4, h5, h6, h7, h8⟩
  · exact row_ne own h1 (by decide) (by rw [ownBlock_slice]; exact e.symm)
  · cases hA : blk A with
    | none =>
      obtain ⟨ad, e1, _⟩ := h2.cells h0
      rw [e1] at hA
      cases hA
    | some k =>
      have := h8 h0 k hA
      have := hlt k (e.symm.trans hA)
      omega
theorem RR.far {w w' : World} {base q : Nat} {L : List UInt8} {bad : Bool} (h : RR w base q L bad) {k : Nat} {cs : Array Value} (hb : Blk w k 39 cs) (hno : ∀ (i : Nat) (x : Int), cs[i]? ≠ some (.int .u8 x)) (g : w.grownBy w' (some k)) : RR w' base q L bad := by
  obtain ⟨A, n', c', At, B, h1, h2, h3⟩ := h
  refine ⟨A, n', c', At, B, h1.grown g (fun e => ?_), h2.grown g (h2.apart5 hb hno), h3⟩
  injection e with e
  subst e
  unfold Blk at h1 hb
  rw [h1] at hb
  injection hb with hb
  injection hb with _ hb
  revert hb
  decide
def MP.rbnb (q b : Nat) (L : List UInt8) : MP Ext := ⟨fun u w => ∃ B n c, u = .slice B n c ∧ RB w B n c L ∧ (0 < n → blk B ≠ some q) ∧ ∀ k, blk B = some k → b ≤ k, fun _ _ _ e ⟨B, n, c, h1, h2, h3⟩ => ⟨B, n, c, h1, h2.ext e, h3⟩⟩
theorem staysq_rbnb (q b : Nat) (L : List UInt8) : StaysQ q (MP.rbnb q b L) := by
  rintro u w w' g ⟨B, n, c, h1, h2, h3, h4⟩
  exact ⟨B, n, c, h1, h2.grown g h3, h3, h4⟩
def MP.onen (q b : Nat) (L : List UInt8) : MP Ext := ⟨fun u w => ∃ x B n c, u = .slice (some ⟨x, 0, none⟩) 1 1 ∧ w.cell? ((⟨x, 0, none⟩ : Addr).add 0) = some (.slice B n c) ∧ x ≠ q ∧ RB w B n c L ∧ (0 < n → blk B ≠ some q) ∧ ∀ k, blk B = some k → b ≤ k, fun _ _ _ e ⟨x, B, n, c, h1, h2, h3, h4, h5⟩ => ⟨x, B, n, c, h1, e.cell h2, h3, h4.ext e, h5⟩⟩
theorem staysq_onen (q b : Nat) (L : List UInt8) : StaysQ q (MP.onen q b L) := by
  rintro u w w' g ⟨x, B, n, c, h1, h2, h3, h4, h5, h6⟩
  exact ⟨x, B, n, c, h1, g.cell h2 (by rw [block_of_add]; intro e; injection e with e; exact h3 e), h3, h4.grown g h5, h5, h6⟩
def RDecI (w : World) (q g6 : Nat) (x : Int) (s : List UInt8 × Bool) (i : Value) (wr : World) : Prop :=
  ∃ (k d : Nat) (P : Option Addr), k ≤ 64 ∧ i = .int .i64 k ∧ OBC wr w.heap.size P k d ((List.range k).map (someP s)) ∧ RR wr w.heap.size q (someS s k).1 (someS s k).2 ∧ Blk wr g6 39 #[.int .i64 x, .slice P k d, .slice none 0 0] ∧ Blk wr w.heap.size 39 #[.int .i64 0, .slice none 0 0, .slice none 0 0] ∧ Ext w wr
theorem Chg.step {a b c : World} {p : Nat} {A : Option Addr} {row : Option Nat} (h : Chg a b p A) (g : b.grownBy c row) (hr : ∀ k, row = some k → k = p ∨ blk A = some k ∨ a.heap.size ≤ k) : Chg a c p A :=
  ⟨g.os.trans h.os, g.tape.trans h.tape, g.output.trans h.output, Nat.le_trans h.size g.size, fun i hi h1 h2 => (g.block i (Nat.lt_of_lt_of_le hi h.size) (fun e => by
    rcases hr i e.symm with e' | e' | e'
    · exact h1 e'
    · exact h2 e'
    · omega)).trans (h.block i hi h1 h2)⟩
theorem OBC.chg {w w' : World} {base n c p g : Nat} {A : Option Addr} {Ls : List (List UInt8)} (h : OBC w base A n c Ls) (k : Chg w w' p (some ⟨g, 0, none⟩)) {tp tg : TypeId} {cp cg : Array Value} (hp : Blk w p tp cp) (hg : Blk w g tg cg) (htp : tp ≠ 22) (htg : tg ≠ 22)
    (np : ∀ (i : Nat) (x : Int), cp[i]? ≠ some (.int .u8 x)) (ng : ∀ (i : Nat) (x : Int), cg[i]? ≠ some (.int .u8 x)) : OBC w' base A n c Ls := by
  obtain ⟨vs, h1, h2, h3⟩ := h
  refine ⟨vs, row_chg h1 k (row_ne h1 hp htp) (fun b hb => by cases hb; exact row_ne h1 hg htg), h2, fun j hj => ?_⟩
  obtain ⟨B, m, d, h4, h5, h6⟩ := h3 j hj
  refine ⟨B, m, d, h4, h5.chg k (fun hm b hb => ⟨fun e => ?_, fun e => ?_⟩), h6⟩
  · exact h5.apart5 hp np hm (by rw [hb, e])
  · exact h5.apart5 hg ng hm (by rw [hb]; exact e.symm)
def RDecJ (w wb : World) (q g6 : Nat) (x : Int) (s : List UInt8 × Bool) (P : Option Addr) (d : Nat) (i : Value) (wr : World) : Prop :=
  ∃ (k d' : Nat) (Q : Option Addr), k ≤ 4 ∧ i = .int .i64 k ∧ OBC wr wb.heap.size Q k d' ((List.range k).map (someP s)) ∧ RR wr w.heap.size q (someS s k).1 (someS s k).2 ∧ Blk wr g6 39 #[.int .i64 x, .slice P 64 d, .slice Q k d'] ∧ Blk wr w.heap.size 39 #[.int .i64 0, .slice none 0 0, .slice none 0 0] ∧ Ext w wr ∧ Chg wb wr q (some ⟨g6, 0, none⟩) ∧ wb.heap.size ≤ wr.heap.size
/-- what the document reads -/
def refOK (L : List UInt8) : Prop := L.length = 2180 ∧ decX L < 16
set_option maxHeartbeats 16000000 in
theorem rdecode_any (A : Option Addr) (n c : Nat) (L : List UInt8) (w : World) (hr : RB w A n c L) (hn : n ≤ 140737488355328) :
    Calls Try.prog 62 #[.slice A n c] w fun e w' =>
      (refOK L → ∃ P d Q d', e = .returned (.tuple #[.agg #[.int .i64 (decX L), .slice P 64 d, .slice Q 4 d'], .bool true]) ∧ RBB w' P 64 d (decP L) ∧ RBB w' Q 4 d' (decQ L)) ∧
      (¬ refOK L → e = .returned (.tuple #[.agg #[.int .i64 0, .slice none 0 0, .slice none 0 0], .bool false])) ∧ Ext w w' := by
  have hcx := fun w' => conv_u32_i64' (P := Try.prog) (w := w') Try.underlying101 Try.underlying3 (beNum (rtake L false 4).1)
  have hE0 := Ext.new w (.cells #[.int .i64 0, .slice none 0 0, .slice none 0 0] 39)
  have hB0 := Blk.new w 39 #[.int .i64 0, .slice none 0 0, .slice none 0 0]
  have Hl := Lib.hid hr.len
  by_cases hlen : n = 2180
  rotate_left
  · have hno : ¬ refOK L := fun h => hlen (Hl.out.symm.trans h.1)
    have Hno := Lib.hid hno
    have hn2 : ¬ ((n : Int) = 2180) := by omega
    clear hno hcx
    go_enter Try.func62, Try.ntmps62
    go_wp2_with fail
    refine bodyPost_ret (results_sig rfl _ _ w.heap.size _ _ _ rfl hB0 Try.underlying39 rfl rfl) rfl ?_
    exact ⟨fun h => absurd h Hno.out, fun _ => rfl, hE0⟩
  subst hlen
  obtain ⟨w0, hw0⟩ : ∃ w0, w0 = w.alloc (.cells #[.int .i64 0, .slice none 0 0, .slice none 0 0] 39) := ⟨_, rfl⟩
  rw [← hw0] at hE0 hB0
  have hs0 : w0.heap.size = w.heap.size + 1 := by rw [hw0]; exact World.size_alloc _ _
  have hE1 := Ext.new w0 (.cells #[.slice A 2180 c, .int .i64 0, .bool false] 98)
  have hB1 := Blk.new w0 98 #[.slice A 2180 c, .int .i64 ((0 : Nat) : Int), .bool false]
  have hR1 : RR (w0.alloc (.cells #[.slice A 2180 c, .int .i64 0, .bool false] 98)) w.heap.size (w.heap.size + 1) L false := by
    rw [hs0] at hB1
    exact ⟨A, 2180, c, 0, L, hB1, (hr.ext hE0).ext hE1, Nat.zero_le _, hn, by omega, fun _ => rfl, (fun h => by cases h), fun h0 k hk => rb_blk_lt hr h0 k hk⟩
  have hE01 := hE0.trans hE1
  have hB01 := hB0.ext hE1
  obtain ⟨w1, hw1⟩ : ∃ w1, w1 = w0.alloc (.cells #[.slice A 2180 c, .int .i64 0, .bool false] 98) := ⟨_, rfl⟩
  rw [← hw1] at hR1 hE01 hB01
  clear hB1 hE1 hE0 hB0 hr
  go_enter Try.func62, Try.ntmps62
  go_wp2_with fail
  rw [← hw0, ← hw1]
  clear hw1 hw0 hs0
  refine (r1number_any w1 w.heap.size (w.heap.size + 1) L false 4 hR1).mono ?_
  rintro e w2 ⟨rfl, hR2, hG2⟩
  have hR2 : RR w2 w.heap.size (w.heap.size + 1) (dS1 L).1 (dS1 L).2 := hR2
  have hE2 := hE01.then_grown hG2 (by intro k hk; cases hk; omega)
  have hB2 := hB01.grown hG2 (by intro e; injection e with e; omega)
  clear hR1 hE01 hB01 hG2
  have hX : decX L = u32i (beNum (rtake L false 4).1) := rfl
  by_cases h16 : 16 ≤ u32i (beNum (rtake L false 4).1)
  · have hno : ¬ refOK L := fun h => by have := h.2; rw [hX] at this; omega
    have Hno := Lib.hid hno
    have f0 := hB2.frozen 0
    have f1 := hB2.frozen 1
    have f2 := hB2.frozen 2
    have x0 := hB2.cell (i := 0) rfl
    have x1 := hB2.cell (i := 1) rfl
    have x2 := hB2.cell (i := 2) rfl
    clear hno hcx
    go_wp2_with fail
    have b3 := ((hB2.set 0 (.int .i64 0)).set 1 (.slice none 0 0)).set 2 (.slice none 0 0)
    have hEf := ((hE2.set (p := ⟨w.heap.size, 0, none⟩) (Nat.le_refl _) (.int .i64 0)).set (p := ⟨w.heap.size, 1, none⟩) (Nat.le_refl _) (.slice none 0 0)).set (p := ⟨w.heap.size, 2, none⟩) (Nat.le_refl _) (.slice none 0 0)
    refine bodyPost_ret (results_sig rfl _ _ w.heap.size _ _ _ rfl b3 Try.underlying39 rfl rfl) rfl ?_
    exact ⟨fun h => absurd h Hno.out, fun _ => rfl, hEf⟩
  have hok : refOK L := ⟨Hl.out, by rw [hX]; omega⟩
  have Hok := Lib.hid hok
  clear hok
  have hq1 : w.heap.size ≤ w.heap.size + 1 := Nat.le_succ _
  obtain ⟨q, hq⟩ : ∃ q, q = w.heap.size + 1 := ⟨_, rfl⟩
  rw [← hq] at hR2 hq1 ⊢
  have hqlt : q < w2.heap.size := hR2.lt
  have hwq : w.heap.size < q := by omega
  have Hq := Lib.hid hq
  clear hq
  go_wp2_with fail
  rw [← hX]
  generalize hx : decX L = x at *
  have Hx := Lib.hid hx
  clear hX h16 hcx hx
  have hE3 := Ext.new w2 (.cells #[.int .i64 x, .slice none 0 0, .slice none 0 0] 39)
  have hB6 := Blk.new w2 39 #[.int .i64 x, .slice none 0 0, .slice none 0 0]
  have hE03 := hE2.trans hE3
  have hR3 := hR2.later hE3
  have hB3 := hB2.ext hE3
  obtain ⟨g6, hg6⟩ : ∃ g6, g6 = w2.heap.size := ⟨_, rfl⟩
  rw [← hg6] at hB6 hqlt ⊢
  have hwg : w.heap.size < g6 := by have := hB2.lt; omega
  clear hg6 hR2 hE2 hB2 hE3
  have hR3 : RR (w2.alloc (.cells #[.int .i64 x, .slice none 0 0, .slice none 0 0] 39)) w.heap.size q (someS (dS1 L) 0).1 (someS (dS1 L) 0).2 := hR3
  go_loopw [7] (fun i wr => RDecI w q g6 x (dS1 L) i wr) (fun i _ => 64 - (intOf i).toNat)
  case atStart => exact ⟨0, 0, none, by omega, rfl, OBC.none_ _ _, hR3, hB6, hB3, hE03⟩
  case round =>
    clear hR3 hB6 hB3 hE03
    obtain ⟨k, d, P, hk, rfl, own, hR, hB6, hB, hEr⟩ := hrel
    by_cases hlt : k < 64
    · have hki : (k : Int) < 64 := by omega
      have hne6 : g6 ≠ q := by omega
      go_upto_region 11 with (fail)
      have hqI : w.heap.size ≤ q := hq1
      have hS0 : (fun j w' => RR w' w.heap.size q (someS (dS1 L) (k + j)).1 (someS (dS1 L) (k + j)).2) 0 wr.drew := hR.later (Ext.refl wr).drew
      have hSx : ∀ j w1 w2, Ext w1 w2 → (fun j w' => RR w' w.heap.size q (someS (dS1 L) (k + j)).1 (someS (dS1 L) (k + j)).2) j w1 → (fun j w' => RR w' w.heap.size q (someS (dS1 L) (k + j)).1 (someS (dS1 L) (k + j)).2) j w2 := fun j w1 w2 e h => RR.later h e
      have hStay : StaysQL q [.is (.pointer (some ⟨g6, 1, none⟩)), .is (.slice (P) (k) (d)), .is (.pointer (some ⟨q, 0, none⟩)), .rbnb q (wr.heap.size) (someP (dS1 L) k), .onen q (wr.heap.size) (someP (dS1 L) k)] := ⟨staysq_is _ _, staysq_is _ _, staysq_is _ _, staysq_rbnb _ _ _, staysq_onen _ _ _, trivial⟩
      refine par_chain (n := 5) (q := q) [3] (fun j w' => RR w' w.heap.size q (someS (dS1 L) (k + j)).1 (someS (dS1 L) (k + j)).2) hEr hS0 (by kernel_rfl) [.is (.pointer (some ⟨g6, 1, none⟩)), .is (.slice (P) (k) (d)), .is (.pointer (some ⟨q, 0, none⟩)), .rbnb q (wr.heap.size) (someP (dS1 L) k), .onen q (wr.heap.size) (someP (dS1 L) k)] rfl rfl ⟨?_, ?_, ?_, ?_, ?_, trivial⟩ ?_
      · refine stepEC rfl rfl hSx fun sdn sa sw sG sE sd sk => ?_
        have h6 : sa.eval (.tmp 6) = .pointer (some ⟨g6, 0, none⟩) := sk.old 6 rfl
        refine Runs.of_run (r := .pointer (some ⟨g6, 1, none⟩)) (w' := sw) ?_ ⟨Ext.refl _, rfl⟩
        unfold execOp
        simp only [h6]
        go_simp
      · refine stepEC rfl rfl hSx fun sdn sa sw sG sE sd sk => ?_
        have h28 : sa.eval (.tmp 28) = .pointer (some ⟨g6, 1, none⟩) := sk.fact 0 28 rfl (sd 0 rfl)
        exact Runs.load rfl h28 (run_load1 Try.underlying37 rfl ((hB6.grown sG (by intro e; injection e with e; exact hne6 e)).cell (i := 1) rfl)) ⟨Ext.refl _, rfl⟩
      · refine stepEC rfl rfl hSx fun sdn sa sw sG sE sd sk => ?_
        have h4 : sa.eval (.tmp 4) = .pointer (some ⟨q, 0, none⟩) := sk.old 4 rfl
        exact Runs.move rfl h4 ⟨Ext.refl _, rfl⟩
      · refine stepCC (j := 0) rfl rfl (by decide) (.inl rfl) hStay hqI fun sdn sa sw sG sE sS sd sk => ?_
        have h30 : sa.eval (.tmp 30) = .pointer (some ⟨q, 0, none⟩) := sk.fact 2 30 rfl (sd 2 rfl)
        refine Runs.call (f := 63) (vs := [.pointer (some ⟨q, 0, none⟩), .int .i64 (32 : Int)]) rfl rfl rfl (by simp only [List.map_toArray, List.map_cons, List.map_nil, h30] <;> rfl) (ent63 _ _) ((r1raw_any sw w.heap.size q _ _ 32 sS).mono ?_); rintro e w' ⟨⟨B, m, d, rfl, own⟩, h3, h4⟩; exact ⟨_, rfl, h4, h3, B, m, d, rfl, own.rb, fun hm e => by have h5 := (own.lt e).1; have h6 := sG.size; have h7 := hR.lt; omega, fun k hk => Nat.le_trans sG.size (own.lt hk).1⟩
      · refine stepEC rfl rfl hSx fun sdn sa sw sG sE sd sk => ?_
        obtain ⟨B31, n31, c31, h31, r31, u31, b31⟩ := sk.fact 3 31 rfl (sd 3 rfl)
        exact Runs.one1 rfl h31 (fun w1 e1 b1 => ⟨e1, _, _, _, _, rfl, b1, (by have h6 := sG.size; have h7 := hR.lt; omega), r31.ext e1, u31, b31⟩)
      intro vals W1 hG hE hS hv
      have e0 : vals 0 = .pointer (some ⟨g6, 1, none⟩) := hv 0 (by omega) 28 rfl
      have e1 : vals 1 = .slice (P) (k) (d) := hv 1 (by omega) 29 rfl
      have e2 : vals 2 = .pointer (some ⟨q, 0, none⟩) := hv 2 (by omega) 30 rfl
      obtain ⟨B31, n31, c31, e3, r31, u31, b31⟩ := hv 3 (by omega) 31 rfl
      obtain ⟨x32, B32, n32, c32, e4, hc32, x32q, r32, u32, b32⟩ := hv 4 (by omega) 32 rfl
      simp only [putAll, Act.put, List.take_succ_cons, List.take_zero, List.drop_succ_cons, List.drop_zero, List.drop_nil, List.take_nil, Nat.reduceAdd, List.setIfInBounds_toArray, List.set_cons_succ, List.set_cons_zero, e0, e1, e2, e3, e4]
      clear hv e0 e1 e2 e3 e4
      obtain ⟨csq, hBq, hnoq⟩ := hR.blk_
      have own1 := own.far hBq (by decide) hnoq hG
      have hB61 := hB6.grown hG (by intro e; injection e with e; omega)
      have hB1 := hB.grown hG (by intro e; injection e with e; omega)
      have hR1 : RR W1 w.heap.size q (someS (dS1 L) (k + 1)).1 (someS (dS1 L) (k + 1)).2 := hS
      have hEw := hE
      have hne : 0 < n32 → blk B32 ≠ blk P := by
        intro hm e
        cases hB : blk B32 with
        | none =>
          obtain ⟨ad, h1, _⟩ := r32.cells hm
          rw [h1] at hB
          cases hB
        | some b =>
          have h1 := b32 b hB
          have h2 := own.lt (e.symm.trans hB)
          omega
      have hne8 : some g6 ≠ blk P := by
        intro e
        obtain ⟨vs, r1', _⟩ := own
        exact row_ne r1' hB6 (by decide) (by rw [ownBlock_slice]; exact e.symm)
      have hne0 : some w.heap.size ≠ blk P := by
        intro e
        obtain ⟨vs, r1', _⟩ := own
        exact row_ne r1' hB (by decide) (by rw [ownBlock_slice]; exact e.symm)
      clear hR hB6 hB hG hE hS hBq
      go_wp2_with (refine appbc_law (base := w.heap.size) (Y := someP (dS1 L) k) rfl rfl rfl rfl hc32 own1 r32 hne hEw.size (by omega) ?_; intro P5 d5 w5 own5 g5; have hB65 := hB61.grown g5 hne8; have y5 := hB65.cell (i := 1) (v := .slice P k d) rfl; have y6 := hB65.frozen 1)
      have hR5 : RR w5 w.heap.size q (someS (dS1 L) (k + 1)).1 (someS (dS1 L) (k + 1)).2 := by
        obtain ⟨vs, r1, _⟩ := own1
        exact hR1.row r1 g5
      have gs := grown_set w5 ⟨g6, 1, none⟩ (.slice P5 (k + 1) d5)
      have own6 := own5.far hB65 (by decide) (sig_no _ _ _ _ _ _ _) gs
      have hR6 := hR5.far hB65 (sig_no _ _ _ _ _ _ _) gs
      have hB66 := hB65.set 1 (.slice P5 (k + 1) d5)
      have hB06 := (hB1.grown g5 hne0).far (p := ⟨g6, 1, none⟩) (by show w.heap.size ≠ g6; omega) (.slice P5 (k + 1) d5)
      have hE6 := (hEw.then_grown g5 (fun b hb => (own1.lt hb).1)).set (p := ⟨g6, 1, none⟩) (Nat.le_of_lt hwg) (.slice P5 (k + 1) d5)
      clear own1 hB61 hB1 hR1 hEw own5 g5 hB65 y5 y6 hR5 gs
      go_roundw
      case rel =>
        refine ⟨k + 1, d5, P5, by omega, by go_num, ?_, hR6, hB66, hB06, hE6⟩
        rw [range_snoc]
        exact own6
      case measure => simp [intOf]; omega
    · obtain rfl : k = 64 := by omega
      have oP : OBC wr w.heap.size P 64 d (decP L) := own
      have hR : RR wr w.heap.size q (someS (dS2 L) 0).1 (someS (dS2 L) 0).2 := hR
      clear own
      go_wp2_with fail
      obtain ⟨wb, rfl⟩ : ∃ wb, wb = wr := ⟨_, rfl⟩
      have e64 : ((64 : Nat) : Int) = 64 := rfl
      simp only [e64]
      clear e64
      go_loopw [8] (fun i wr => RDecJ w wb q g6 x (dS2 L) P d i wr) (fun i _ => 4 - (intOf i).toNat)
      case atStart => exact ⟨0, 0, none, by omega, rfl, OBC.none_ _ _, hR, hB6, hB, hEr, Chg.refl _ _ _, Nat.le_refl _⟩
      case round =>
        have hwb := hEr.size
        obtain ⟨csb, hBqb, hnob⟩ := hR.blk_
        have hB6b := hB6
        clear hR hB6 hB hEr
        obtain ⟨k, d', Q, hk', rfl, own, hR, hB6, hB, hEr, hC, hsz⟩ := hrel
        by_cases hlt2 : k < 4
        · have hki : (k : Int) < 4 := by omega
          have hne6 : g6 ≠ q := by omega
          go_upto_region 15 with (fail)
          have hqI : w.heap.size ≤ q := hq1
          have hS0 : (fun j w' => RR w' w.heap.size q (someS (dS2 L) (k + j)).1 (someS (dS2 L) (k + j)).2) 0 wr.drew := hR.later (Ext.refl wr).drew
          have hSx : ∀ j w1 w2, Ext w1 w2 → (fun j w' => RR w' w.heap.size q (someS (dS2 L) (k + j)).1 (someS (dS2 L) (k + j)).2) j w1 → (fun j w' => RR w' w.heap.size q (someS (dS2 L) (k + j)).1 (someS (dS2 L) (k + j)).2) j w2 := fun j w1 w2 e h => RR.later h e
          have hStay : StaysQL q [.is (.pointer (some ⟨g6, 2, none⟩)), .is (.slice (Q) (k) (d')), .is (.pointer (some ⟨q, 0, none⟩)), .rbnb q (wr.heap.size) (someP (dS2 L) k), .onen q (wr.heap.size) (someP (dS2 L) k)] := ⟨staysq_is _ _, staysq_is _ _, staysq_is _ _, staysq_rbnb _ _ _, staysq_onen _ _ _, trivial⟩
          refine par_chain (n := 5) (q := q) [3] (fun j w' => RR w' w.heap.size q (someS (dS2 L) (k + j)).1 (someS (dS2 L) (k + j)).2) hEr hS0 (by kernel_rfl) [.is (.pointer (some ⟨g6, 2, none⟩)), .is (.slice (Q) (k) (d')), .is (.pointer (some ⟨q, 0, none⟩)), .rbnb q (wr.heap.size) (someP (dS2 L) k), .onen q (wr.heap.size) (someP (dS2 L) k)] rfl rfl ⟨?_, ?_, ?_, ?_, ?_, trivial⟩ ?_
          · refine stepEC rfl rfl hSx fun sdn sa sw sG sE sd sk => ?_
            have h6 : sa.eval (.tmp 6) = .pointer (some ⟨g6, 0, none⟩) := sk.old 6 rfl
            refine Runs.of_run (r := .pointer (some ⟨g6, 2, none⟩)) (w' := sw) ?_ ⟨Ext.refl _, rfl⟩
            unfold execOp
            simp only [h6]
            go_simp
          · refine stepEC rfl rfl hSx fun sdn sa sw sG sE sd sk => ?_
            have h39 : sa.eval (.tmp 39) = .pointer (some ⟨g6, 2, none⟩) := sk.fact 0 39 rfl (sd 0 rfl)
            exact Runs.load rfl h39 (run_load1 Try.underlying37 rfl ((hB6.grown sG (by intro e; injection e with e; exact hne6 e)).cell (i := 2) rfl)) ⟨Ext.refl _, rfl⟩
          · refine stepEC rfl rfl hSx fun sdn sa sw sG sE sd sk => ?_
            have h4 : sa.eval (.tmp 4) = .pointer (some ⟨q, 0, none⟩) := sk.old 4 rfl
            exact Runs.move rfl h4 ⟨Ext.refl _, rfl⟩
          · refine stepCC (j := 0) rfl rfl (by decide) (.inl rfl) hStay hqI fun sdn sa sw sG sE sS sd sk => ?_
            have h41 : sa.eval (.tmp 41) = .pointer (some ⟨q, 0, none⟩) := sk.fact 2 41 rfl (sd 2 rfl)
            refine Runs.call (f := 63) (vs := [.pointer (some ⟨q, 0, none⟩), .int .i64 (32 : Int)]) rfl rfl rfl (by simp only [List.map_toArray, List.map_cons, List.map_nil, h41] <;> rfl) (ent63 _ _) ((r1raw_any sw w.heap.size q _ _ 32 sS).mono ?_); rintro e w' ⟨⟨B, m, d, rfl, own⟩, h3, h4⟩; exact ⟨_, rfl, h4, h3, B, m, d, rfl, own.rb, fun hm e => by have h5 := (own.lt e).1; have h6 := sG.size; have h7 := hR.lt; omega, fun k hk => Nat.le_trans sG.size (own.lt hk).1⟩
          · refine stepEC rfl rfl hSx fun sdn sa sw sG sE sd sk => ?_
            obtain ⟨B42, n42, c42, h42, r42, u42, b42⟩ := sk.fact 3 42 rfl (sd 3 rfl)
            exact Runs.one1 rfl h42 (fun w1 e1 b1 => ⟨e1, _, _, _, _, rfl, b1, (by have h6 := sG.size; have h7 := hR.lt; omega), r42.ext e1, u42, b42⟩)
          intro vals W1 hG hE hS hv
          have e0 : vals 0 = .pointer (some ⟨g6, 2, none⟩) := hv 0 (by omega) 39 rfl
          have e1 : vals 1 = .slice (Q) (k) (d') := hv 1 (by omega) 40 rfl
          have e2 : vals 2 = .pointer (some ⟨q, 0, none⟩) := hv 2 (by omega) 41 rfl
          obtain ⟨B42, n42, c42, e3, r42, u42, b42⟩ := hv 3 (by omega) 42 rfl
          obtain ⟨x43, B43, n43, c43, e4, hc43, x43q, r43, u43, b43⟩ := hv 4 (by omega) 43 rfl
          simp only [putAll, Act.put, List.take_succ_cons, List.take_zero, List.drop_succ_cons, List.drop_zero, List.drop_nil, List.take_nil, Nat.reduceAdd, List.setIfInBounds_toArray, List.set_cons_succ, List.set_cons_zero, e0, e1, e2, e3, e4]
          clear hv e0 e1 e2 e3 e4
          obtain ⟨csq, hBq, hnoq⟩ := hR.blk_
          have own1 := own.far hBq (by decide) hnoq hG
          have hB61 := hB6.grown hG (by intro e; injection e with e; omega)
          have hB1 := hB.grown hG (by intro e; injection e with e; omega)
          have hR1 : RR W1 w.heap.size q (someS (dS2 L) (k + 1)).1 (someS (dS2 L) (k + 1)).2 := hS
          have hC1 := hC.step hG (fun b hb => .inl (by injection hb with hb; exact hb.symm))
          have hEw := hE
          have hszW : wb.heap.size ≤ W1.heap.size := Nat.le_trans hsz hG.size
          have hne : 0 < n43 → blk B43 ≠ blk Q := by
            intro hm e
            cases hB : blk B43 with
            | none =>
              obtain ⟨ad, h1, _⟩ := r43.cells hm
              rw [h1] at hB
              cases hB
            | some b =>
              have h1 := b43 b hB
              have h2 := own.lt (e.symm.trans hB)
              omega
          have hne8 : some g6 ≠ blk Q := by
            intro e
            obtain ⟨vs, r1', _⟩ := own
            exact row_ne r1' hB6 (by decide) (by rw [ownBlock_slice]; exact e.symm)
          have hne0 : some w.heap.size ≠ blk Q := by
            intro e
            obtain ⟨vs, r1', _⟩ := own
            exact row_ne r1' hB (by decide) (by rw [ownBlock_slice]; exact e.symm)
          clear hR hB6 hB hG hE hS hBq hC
          go_wp2_with (refine appbc_law (base := wb.heap.size) (Y := someP (dS2 L) k) rfl rfl rfl rfl hc43 own1 r43 hne hszW (by omega) ?_; intro P5 d5 w5 own5 g5; have hB65 := hB61.grown g5 hne8; have y5 := hB65.cell (i := 2) (v := .slice Q k d') rfl; have y6 := hB65.frozen 2)
          have hR5 : RR w5 w.heap.size q (someS (dS2 L) (k + 1)).1 (someS (dS2 L) (k + 1)).2 := by
            obtain ⟨vs, r1, _⟩ := own1
            exact hR1.row (ownsRow_base r1 hwb) g5
          have gs := grown_set w5 ⟨g6, 2, none⟩ (.slice P5 (k + 1) d5)
          have own6 := own5.far hB65 (by decide) (sig_no _ _ _ _ _ _ _) gs
          have hR6 := hR5.far hB65 (sig_no _ _ _ _ _ _ _) gs
          have hB66 := hB65.set 2 (.slice P5 (k + 1) d5)
          have hB06 := (hB1.grown g5 hne0).far (p := ⟨g6, 2, none⟩) (by show w.heap.size ≠ g6; omega) (.slice P5 (k + 1) d5)
          have hE6 := (hEw.then_grown g5 (fun b hb => Nat.le_trans hwb (own1.lt hb).1)).set (p := ⟨g6, 2, none⟩) (Nat.le_of_lt hwg) (.slice P5 (k + 1) d5)
          have hC6 := (hC1.step g5 (fun b hb => .inr (.inr (own1.lt hb).1))).step gs (fun b hb => .inr (.inl hb))
          have hsz6 : wb.heap.size ≤ (w5.setCell ⟨g6, 2, none⟩ (.slice P5 (k + 1) d5)).heap.size := Nat.le_trans (Nat.le_trans hszW g5.size) gs.size
          clear own1 hB61 hB1 hR1 hEw own5 g5 hB65 y5 y6 hR5 gs hC1
          go_roundw
          case rel =>
            refine ⟨k + 1, d5, P5, by omega, by go_num, ?_, hR6, hB66, hB06, hE6, hC6, hsz6⟩
            rw [range_snoc]
            exact own6
          case measure => simp [intOf]; omega
        · obtain rfl : k = 4 := by omega
          have oQ : OBC wr wb.heap.size Q 4 d' (decQ L) := own
          have oP := oP.chg hC hBqb hB6b (by decide) (by decide) hnob (sig_no _ _ _ _ _ _ _)
          clear own hC hBqb hB6b hR
          have z0 := hB6.cell (i := 0) (v := .int .i64 x) rfl
          have z1 := hB6.cell (i := 1) (v := .slice P 64 d) rfl
          have z2 := hB6.cell (i := 2) (v := .slice Q 4 d') rfl
          have f0 := hB.frozen 0
          have f1 := hB.frozen 1
          have f2 := hB.frozen 2
          have x0 := hB.cell (i := 0) rfl
          have x1 := hB.cell (i := 1) rfl
          have x2 := hB.cell (i := 2) rfl
          go_wp2_with fail
          have g1 := fun (w' : World) (u : Value) (i : Nat) => grown_set w' ⟨w.heap.size, i, none⟩ u
          have b1 := hB.set 0 (.int .i64 x)
          have b2 := b1.set 1 (.slice P 64 d)
          have b3 := b2.set 2 (.slice Q 4 d')
          have oP3 := ((oP.far hB (by decide) (sig_no _ _ _ _ _ _ _) (g1 _ (.int .i64 x) 0)).far b1 (by decide) (sig_no _ _ _ _ _ _ _) (g1 _ (.slice P 64 d) 1)).far b2 (by decide) (sig_no _ _ _ _ _ _ _) (g1 _ (.slice Q 4 d') 2)
          have oQ3 := ((oQ.far hB (by decide) (sig_no _ _ _ _ _ _ _) (g1 _ (.int .i64 x) 0)).far b1 (by decide) (sig_no _ _ _ _ _ _ _) (g1 _ (.slice P 64 d) 1)).far b2 (by decide) (sig_no _ _ _ _ _ _ _) (g1 _ (.slice Q 4 d') 2)
          have hEf := ((hEr.set (p := ⟨w.heap.size, 0, none⟩) (Nat.le_refl _) (.int .i64 x)).set (p := ⟨w.heap.size, 1, none⟩) (Nat.le_refl _) (.slice P 64 d)).set (p := ⟨w.heap.size, 2, none⟩) (Nat.le_refl _) (.slice Q 4 d')
          refine bodyPost_ret (results_sig rfl _ _ w.heap.size _ _ _ rfl b3 Try.underlying39 rfl rfl) rfl ?_
          rw [Hx.out]
          exact ⟨fun _ => ⟨P, d, Q, d', rfl, oP3.rbb, oQ3.rbb⟩, fun h => absurd Hok.out h, hEf⟩
end Go.Proofs.Ythggfbpdhkpkjaa
namespace Go.Proofs.Ythggfbpdhkpkjaa
set_option maxRecDepth 100000
open Go Go.RowKit
theorem rtake_yes_ {L : List UInt8} {z : Nat} (h : z ≤ L.length) : rtake L false (z : Int) = (L.take z, L.drop z, false) := by
  unfold rtake
  rw [if_neg (by rintro (h1 | h1 | h1) <;> first | (cases h1; done) | omega)]
  rfl
theorem someS_yes (X : List UInt8) : ∀ n, 32 * n ≤ X.length → someS (X, false) n = (X.drop (32 * n), false) := by
  intro n
  induction n with
  | zero => intro _; simp [someS]
  | succ n ih =>
    intro h
    show (rtake (someS (X, false) n).1 (someS (X, false) n).2 ((32 : Nat) : Int)).2 = _
    rw [ih (by omega)]
    rw [rtake_yes_ (by rw [List.length_drop]; omega)]
    show ((X.drop (32 * n)).drop 32, false) = _
    rw [List.drop_drop]
    congr 2
theorem someP_yes (X : List UInt8) (k : Nat) (h : 32 * (k + 1) ≤ X.length) : someP (X, false) k = (X.drop (32 * k)).take 32 := by
  unfold someP
  rw [someS_yes X k (by omega)]
  show (rtake (X.drop (32 * k)) false ((32 : Nat) : Int)).1 = _
  rw [rtake_yes_ (by rw [List.length_drop]; omega)]
theorem dS1_yes {L : List UInt8} (h : L.length = 2180) : dS1 L = (L.drop 4, false) := by
  unfold dS1
  show (rtake L false ((4 : Nat) : Int)).2 = _
  rw [rtake_yes_ (by omega)]
theorem dS2_yes {L : List UInt8} (h : L.length = 2180) : dS2 L = (L.drop 2052, false) := by
  unfold dS2
  rw [dS1_yes h, someS_yes _ 64 (by rw [List.length_drop]; omega), List.drop_drop]
theorem dS3_yes {L : List UInt8} (h : L.length = 2180) : dS3 L = ([], false) := by
  unfold dS3
  rw [dS2_yes h, someS_yes _ 4 (by rw [List.length_drop]; omega), List.drop_drop, List.drop_eq_nil_of_le (by omega)]
theorem decP_at {L : List UInt8} (h : L.length = 2180) {i : Nat} (hi : i < 64) : lb (decP L) i = (L.drop (4 + 32 * i)).take 32 := by
  unfold decP
  rw [lb_range _ hi, dS1_yes h, someP_yes _ i (by rw [List.length_drop]; omega), List.drop_drop]
theorem decQ_at {L : List UInt8} (h : L.length = 2180) {i : Nat} (hi : i < 4) : lb (decQ L) i = (L.drop (2052 + 32 * i)).take 32 := by
  unfold decQ
  rw [lb_range _ hi, dS2_yes h, someP_yes _ i (by rw [List.length_drop]; omega), List.drop_drop]
theorem decX_nonneg (L : List UInt8) : 0 ≤ decX L := by unfold decX u32i; omega
theorem decOK5_iff (L : List UInt8) : decOK5 L = true ↔ refOK L := by
  constructor
  · intro h
    refine ⟨decOK5_len h, ?_⟩
    unfold decOK5 rightB at h
    simp only [Bool.and_eq_true, decide_eq_true_eq] at h
    exact h.2.1.1.2
  · rintro ⟨h, hx⟩
    unfold decOK5
    rw [dS3_yes h]
    have h1 : all32 (decP L) := by
      intro i hi
      have hi' : i < 64 := by simpa [decP] using hi
      rw [decP_at h hi', List.length_take, List.length_drop]
      omega
    have h2 : all32 (decQ L) := by
      intro i hi
      have hi' : i < 4 := by simpa [decQ] using hi
      rw [decQ_at h hi', List.length_take, List.length_drop]
      omega
    rw [right_yes (decX_nonneg L) hx (by simp [decP]) (by simp [decQ]) h1 h2]
    rfl
end Go.Proofs.Ythggfbpdhkpkjaa
namespace Go.Proofs.Ythggfbpdhkpkjaa
set_option maxRecDepth 100000
open Go Go.RowKit
/-- what is read of a reader's bytes as a signed checkpoint -/
def gS1 (L : List UInt8) (bad : Bool) : List UInt8 × Bool := (rtake L bad 4).2
def gX (L : List UInt8) (bad : Bool) : Int := u32i (beNum (rtake L bad 4).1)
def gR (L : List UInt8) (bad : Bool) : List UInt8 := (rtake (gS1 L bad).1 (gS1 L bad).2 32).1
theorem rtake_none {L : List UInt8} {bad : Bool} {z : Int} (h : (rtake L bad z).2.2 = true) : (rtake L bad z).1 = [] := by
  unfold rtake at h ⊢
  split
  · rfl
  · rename_i h1
    rw [if_neg h1] at h
    cases h
theorem rtake_len (L : List UInt8) (bad : Bool) (z : Int) : (rtake L bad z).1.length ≤ z.toNat := by
  unfold rtake
  split
  · simp
  · simp only [List.length_take]
    omega
theorem RdrS.lt_ {w : World} {base q : Nat} {L : List UInt8} {bad : Bool} (h : RdrS w base q L bad) : q < w.heap.size := by
  obtain ⟨_, cs, hb, _⟩ := h.blk_
  exact hb.lt
theorem RdrS.away {w w' : World} {base q : Nat} {L : List UInt8} {bad : Bool} (h : RdrS w base q L bad) {k : Nat} {t : TypeId} {cs : Array Value} (hb : Blk w k t cs) (ht : t ≠ 115) (hno : ∀ (i : Nat) (x : Int), cs[i]? ≠ some (.int .u8 x)) (g : w.grownBy w' (some k)) : RdrS w' base q L bad := by
  obtain ⟨A', n', c', hn, hR⟩ := h
  have hbA : 0 < n' → blk A' ≠ some k := hR.rb.apart5 hb hno
  refine ⟨A', n', c', hn, hR.blk.grown g (fun e => ?_), hR.rb.grown g hbA, hR.ne, hR.base, fun h0 k' hk => ?_⟩
  · injection e with e
    subst e
    have h1 := hR.blk
    unfold Blk at h1 hb
    rw [h1] at hb
    injection hb with hb
    injection hb with _ hb
    exact ht hb.symm
  · obtain ⟨cs', fr, h1⟩ := hR.ty h0 k' hk
    exact ⟨cs', fr, (g.block k' (Array.getElem?_eq_some_iff.1 h1).1 (fun e => hbA h0 (by rw [hk, e]))).trans h1⟩
theorem grown_new {a w : World} {row : Option Nat} (h : a.grownBy w row) {p : Addr} (hp : a.heap.size ≤ p.block) (u : Value) : a.grownBy (w.setCell p u) row :=
  ⟨h.os, h.tape, h.output, by simpa [World.setCell] using h.size, fun k hk hne => (Below.heap_setCell w p u k (by omega)).trans (h.block k hk hne)⟩
end Go.Proofs.Ythggfbpdhkpkjaa

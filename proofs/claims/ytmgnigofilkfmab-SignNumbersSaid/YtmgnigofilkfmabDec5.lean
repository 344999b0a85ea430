/-
  sign.Decode, walked.
-/
import Derived.Test.YtmgnigofilkfmabWire4
import Derived.Test.YtmgnigofilkfmabEncG
namespace Go.Proofs.Ytmgnigofilkfmab
set_option maxRecDepth 100000
open Go Go.RowKit
/-- the reader's state behind k hashes, and the hash that is read then -/
def someS (s : List UInt8 × Bool) : Nat → List UInt8 × Bool
  | 0 => s
  | k + 1 => (rtake (someS s k).1 (someS s k).2 32).2
def someP (s : List UInt8 × Bool) (k : Nat) : List UInt8 := (rtake (someS s k).1 (someS s k).2 32).1
theorem RdrS.row {w w' : World} {base q : Nat} {L : List UInt8} {bad : Bool} (h : RdrS w base q L bad) {b : Nat} {A : Option Addr} {n c : Nat} {vs : List Value} (own : w.ownsRow b 22 1 (.slice A n c) n vs) (g : w.grownBy w' (blk A)) : RdrS w' base q L bad := by
  obtain ⟨A', n', c', hn, hR⟩ := h
  have hne : ∀ k, blk A = some k → ∀ cs t fr, w.heap[k]? = some (.cells cs t fr) → t = 22 := by
    intro k hk cs t fr hc
    obtain ⟨cs', h1⟩ := row_type own (k := k) (by rw [ownBlock_slice]; exact hk)
    rw [h1] at hc
    injection hc with hc
    injection hc with _ hc
    exact hc.symm
  have hbA : 0 < n' → blk A' ≠ blk A := by
    intro h0 e
    cases hA : blk A with
    | none =>
      rw [hA] at e
      obtain ⟨ad, h1, _⟩ := hR.rb.cells h0
      rw [h1] at e
      cases e
    | some k =>
      rw [hA] at e
      obtain ⟨cs, fr, h1⟩ := hR.ty h0 k e
      have := hne k hA cs _ fr h1
      revert this
      decide
  refine ⟨A', n', c', hn, hR.blk.grown g ?_, hR.rb.grown g hbA, hR.ne, hR.base, fun h0 k hk => ?_⟩
  · intro e
    have := hne q e.symm _ _ _ hR.blk
    revert this
    decide
  · obtain ⟨cs, fr, h1⟩ := hR.ty h0 k hk
    exact ⟨cs, fr, (g.block k (Array.getElem?_eq_some_iff.1 h1).1 (fun e => hbA h0 (by rw [hk, e]))).trans h1⟩
theorem RdrS.blk_ {w : World} {base q : Nat} {L : List UInt8} {bad : Bool} (h : RdrS w base q L bad) : base ≤ q ∧ ∃ cs, Blk w q 105 cs ∧ ∀ (i : Nat) (x : Int), cs[i]? ≠ some (.int .u8 x) := by
  obtain ⟨A', n', c', hn, hR⟩ := h
  refine ⟨hR.base, _, hR.blk, fun i x => ?_⟩
  rcases i with _ | _ | i <;> simp
def SomeI (w : World) (base q n : Nat) (s : List UInt8 × Bool) (v i : Value) (wr : World) : Prop :=
  ∃ (k d : Nat) (P : Option Addr), k ≤ n ∧ i = .int .i64 k ∧ v = .slice P k d ∧ OBC wr w.heap.size P k d ((List.range k).map (someP s)) ∧ RdrS wr base q (someS s k).1 (someS s k).2 ∧ w.grownBy wr (some q)
set_option maxHeartbeats 4000000 in
theorem some_any (w : World) (base q n : Nat) (L : List UInt8) (bad : Bool) (hR : RdrS w base q L bad) (hn : n ≤ 1000) :
    Calls Try.prog 80 #[.pointer (some ⟨q, 0, none⟩), .int .i64 (n : Int)] w fun e w' => ∃ P d, e = .returned (.slice P n d) ∧ OBC w' w.heap.size P n d ((List.range n).map (someP (L, bad))) ∧ RdrS w' base q (someS (L, bad) n).1 (someS (L, bad) n).2 ∧ w.grownBy w' (some q) := by
  generalize hs : (L, bad) = s
  have hR : RdrS w base q (someS s 0).1 (someS s 0).2 := by rw [← hs]; exact hR
  clear hs
  go_enter Try.func80, Try.ntmps80
  go_wp2_with fail
  go_loopw [5, 7] (fun v i wr => SomeI w base q n s v i wr) (fun _ i _ => n - (intOf i).toNat)
  case atStart => exact ⟨0, 0, none, by omega, rfl, rfl, OBC.none_ _ _, hR, (Ext.refl w).grownBy _⟩
  case round =>
    clear hR
    obtain ⟨k, d, P, hk, rfl, rfl, own, hR, hG⟩ := hrel
    by_cases hlt : k < n
    · have hki : (k : Int) < (n : Int) := by omega
      go_wp2_with fail
      refine (rraw_any wr base q _ _ 32 hR (by omega) (by omega)).mono ?_
      rintro e w3 ⟨⟨B, m, d3, rfl, own3⟩, hR3, hG3⟩
      obtain ⟨_, cs, hBq, hno⟩ := hR.blk_
      have own2 := own.far hBq (by decide) hno hG3
      have hEa := Ext.new w3 (.cells #[.slice B m d3] 22)
      have hBa := Blk.new w3 22 #[.slice B m d3]
      have hne : 0 < m → blk B ≠ blk P := by
        intro hm e
        cases hB : blk B with
        | none =>
          obtain ⟨ad, h1, _⟩ := own3.rb.cells hm
          rw [h1] at hB
          cases hB
        | some b =>
          have h1 := (own3.lt hB).1
          have h2 := own.lt (e.symm.trans hB)
          omega
      have hR4 := hR3.later hEa
      have own4 := own2.ext hEa
      have hG4 := (hG.trans hG3).trans (hEa.grownBy _)
      go_wp2_with (refine appbc_law (base := w.heap.size) (Y := someP s k) rfl rfl rfl rfl (by rw [add_plain]; exact hBa.cell (i := 0) rfl) own4 (own3.rb.ext hEa) hne hG4.size (by omega) ?_; intro P5 d5 w5 own5 g5)
      have hR5 : RdrS w5 base q (someS s (k + 1)).1 (someS s (k + 1)).2 := by
        obtain ⟨vs, r1, _⟩ := own4
        exact hR4.row r1 g5
      have hG5 : w.grownBy w5 (some q) := ⟨g5.os.trans hG4.os, g5.tape.trans hG4.tape, g5.output.trans hG4.output, Nat.le_trans hG4.size g5.size, fun i hi hne => (g5.block i (Nat.lt_of_lt_of_le hi hG4.size) (fun e => by have := (own4.lt e.symm).1; omega)).trans (hG4.block i hi hne)⟩
      go_roundw
      case rel =>
        refine ⟨k + 1, d5, P5, by omega, by go_num, rfl, ?_, hR5, hG5⟩
        rw [range_snoc]
        exact own5
      case measure => simp [intOf]; omega
    · obtain rfl : k = n := by omega
      go_wp2_with fail
      go_ret
      exact ⟨P, d, rfl, own, hR, hG⟩
def dS1 (L : List UInt8) : List UInt8 × Bool := (rtake L false 4).2
def dS2 (L : List UInt8) : List UInt8 × Bool := someS (dS1 L) 64
def dS3 (L : List UInt8) : List UInt8 × Bool := someS (dS2 L) 4
def decX (L : List UInt8) : Int := u32i (beNum (rtake L false 4).1)
def decP (L : List UInt8) : List (List UInt8) := (List.range 64).map (someP (dS1 L))
def decQ (L : List UInt8) : List (List UInt8) := (List.range 4).map (someP (dS2 L))
noncomputable def decOK5 (L : List UInt8) : Bool := (!(dS3 L).2 && (dS3 L).1.isEmpty) && rightB (decX L) (decP L) (decQ L)
set_option maxHeartbeats 8000000 in
theorem sdecode_any (A : Option Addr) (n c : Nat) (L : List UInt8) (w : World) (hr : RB w A n c L) (hn : n ≤ 140737488355328) :
    Calls Try.prog 42 #[.slice A n c] w fun e w' =>
      (decOK5 L = true → ∃ P d Q d', e = .returned (.tuple #[.agg #[.int .i64 (decX L), .slice P 64 d, .slice Q 4 d'], .int .i64 0]) ∧ RBB w' P 64 d (decP L) ∧ RBB w' Q 4 d' (decQ L)) ∧
      (decOK5 L = false → e = .returned (.tuple #[.agg #[.int .i64 0, .slice none 0 0, .slice none 0 0], .int .i64 12])) ∧ Ext w w' := by
  have e64 : ((64 : Nat) : Int) = 64 := rfl
  have e4 : ((4 : Nat) : Int) = 4 := rfl
  have hcx := fun w' => conv_u32_i64' (P := Try.prog) (w := w') Try.underlying25 Try.underlying3 (beNum (rtake L false 4).1)
  go_enter Try.func42, Try.ntmps42
  have hE0 := Ext.new w (.cells #[.int .i64 0, .slice none 0 0, .slice none 0 0] 52)
  have hB0 := Blk.new w 52 #[.int .i64 0, .slice none 0 0, .slice none 0 0]
  have hs0 : (w.alloc (.cells #[.int .i64 0, .slice none 0 0, .slice none 0 0] 52)).heap.size = w.heap.size + 1 := World.size_alloc _ _
  go_wp2_with fail
  refine (rread_any A n c L _ (hr.ext hE0) hn).mono ?_
  rintro e w1 ⟨q, rfl, hR1, hE1⟩
  rw [hs0] at hR1
  have hE01 := hE0.trans hE1
  have hB1 := hB0.ext hE1
  have hqb := hR1.blk_.1
  clear hE0 hE1 hB0 hr hs0
  go_wp2_with fail
  refine (rnum_any w1 _ q L false hR1).mono ?_
  rintro e w2 ⟨rfl, hR2, hG2⟩
  have hB2 := hB1.grown hG2 (by intro e; injection e with e; omega)
  have hE2 := hE01.then_grown hG2 (by intro k hk; cases hk; omega)
  have hR2 : RdrS w2 (w.heap.size + 1) q (dS1 L).1 (dS1 L).2 := hR2
  have hs1 := some_any w2 _ q 64 _ _ hR2 (by omega)
  rw [e64] at hs1
  have Hs1 := Lib.hid hs1
  clear hs1 hR1 hB1 hE01 hG2 hR2
  go_wp2_with fail
  refine Hs1.out.mono ?_
  rintro e w3 ⟨P, d, rfl, oP, hR3, hG3⟩
  clear Hs1
  have hB3 := hB2.grown hG3 (by intro e; injection e with e; omega)
  have hE3 := hE2.then_grown hG3 (by intro k hk; cases hk; omega)
  have hR3 : RdrS w3 (w.heap.size + 1) q (dS2 L).1 (dS2 L).2 := hR3
  have oP : OBC w3 w2.heap.size P 64 d (decP L) := oP
  have hs2 := some_any w3 _ q 4 _ _ hR3 (by omega)
  rw [e4] at hs2
  have Hs2 := Lib.hid hs2
  obtain ⟨_, cs3, hBq3, hno3⟩ := hR3.blk_
  clear hs2 hB2 hE2 hG3 hR3
  go_wp2_with fail
  refine Hs2.out.mono ?_
  rintro e w4 ⟨Q, d', rfl, oQ, hR4, hG4⟩
  clear Hs2 hcx
  have hB4 := hB3.grown hG4 (by intro e; injection e with e; omega)
  have hE4 := hE3.then_grown hG4 (by intro k hk; cases hk; omega)
  have hR4 : RdrS w4 (w.heap.size + 1) q (dS3 L).1 (dS3 L).2 := hR4
  have oQ : OBC w4 w3.heap.size Q 4 d' (decQ L) := oQ
  have oP := oP.far hBq3 (by decide) hno3 hG4
  clear hB3 hE3 hG4 hBq3 hno3
  have hX : u32i (beNum (rtake L false 4).1) = decX L := rfl
  rw [hX]
  clear hX
  have hE5 := Ext.new w4 (.cells #[.int .i64 (decX L), .slice P 64 d, .slice Q 4 d'] 52)
  have hB5 := Blk.new w4 52 #[.int .i64 (decX L), .slice P 64 d, .slice Q 4 d']
  have hre := rend_any _ _ q _ _ (hR4.later hE5)
  have hok : decOK5 L = ((!(dS3 L).2 && (dS3 L).1.isEmpty) && rightB (decX L) (decP L) (decQ L)) := rfl
  obtain ⟨be, hbe⟩ : ∃ be, be = (!(dS3 L).2 && (dS3 L).1.isEmpty) := ⟨_, rfl⟩
  rw [← hbe] at hre hok
  have Hre := Lib.hid hre
  have Hok := Lib.hid hok
  have oP := oP.ext hE5
  have oQ := oQ.ext hE5
  have hB6 := hB4.ext hE5
  have hE6 := hE4.trans hE5
  clear hre hok hbe hR4 hB4 hE4 hE5
  generalize hx : decX L = x at *
  generalize hPs : decP L = Ps at *
  generalize hQs : decQ L = Qs at *
  have Hx := Lib.hid hx
  have HPs := Lib.hid hPs
  have HQs := Lib.hid hQs
  clear hx hPs hQs
  have fin : ∀ (wf : World), Blk wf w.heap.size 52 #[.int .i64 0, .slice none 0 0, .slice none 0 0] → Ext w wf → Blk (((wf.setCell ⟨w.heap.size, 0, none⟩ (.int .i64 0)).setCell ⟨w.heap.size, 1, none⟩ (.slice none 0 0)).setCell ⟨w.heap.size, 2, none⟩ (.slice none 0 0)) w.heap.size 52 #[.int .i64 0, .slice none 0 0, .slice none 0 0] ∧ Ext w (((wf.setCell ⟨w.heap.size, 0, none⟩ (.int .i64 0)).setCell ⟨w.heap.size, 1, none⟩ (.slice none 0 0)).setCell ⟨w.heap.size, 2, none⟩ (.slice none 0 0)) :=
    fun wf hb he => ⟨((hb.set 0 _).set 1 _).set 2 _, ((he.set (p := ⟨w.heap.size, 0, none⟩) (Nat.le_refl _) _).set (p := ⟨w.heap.size, 1, none⟩) (Nat.le_refl _) _).set (p := ⟨w.heap.size, 2, none⟩) (Nat.le_refl _) _⟩
  have Fin := Lib.hid fin
  clear fin
  cases be with
  | false =>
    have f0 := hB6.frozen 0
    have f1 := hB6.frozen 1
    have f2 := hB6.frozen 2
    have x0 := hB6.cell (i := 0) rfl
    have x1 := hB6.cell (i := 1) rfl
    have x2 := hB6.cell (i := 2) rfl
    go_wp2_with fail
    refine Hre.out.mono ?_
    rintro e w5 ⟨rfl, rfl⟩
    clear Hre
    go_wp2_with fail
    obtain ⟨b3, hEf⟩ := Fin.out _ hB6 hE6
    refine bodyPost_ret (results_sig rfl _ _ w.heap.size _ _ _ rfl b3 Try.underlying52 rfl rfl) rfl ?_
    exact ⟨fun h => absurd (Hok.out.symm.trans h) (by simp), fun _ => rfl, hEf⟩
  | true =>
    have y0 := hB5.cell (i := 0) (v := .int .i64 x) rfl
    have y1 := hB5.cell (i := 1) (v := .slice P 64 d) rfl
    have y2 := hB5.cell (i := 2) (v := .slice Q 4 d') rfl
    go_wp2_with fail
    refine Hre.out.mono ?_
    rintro e w5 ⟨rfl, rfl⟩
    clear Hre
    go_wp2_with fail
    refine (sright_any x P Q 64 d 4 d' Ps Qs _ oP.rbb oQ.rbb).mono ?_
    rintro e w7 ⟨rfl, hE7⟩
    have oP := oP.ext hE7
    have oQ := oQ.ext hE7
    have hB7 := hB6.ext hE7
    have hB57 := hB5.ext hE7
    have hE07 := hE6.trans hE7
    clear y0 y1 y2 hB6 hE6 hB5
    have f0 := hB7.frozen 0
    have f1 := hB7.frozen 1
    have f2 := hB7.frozen 2
    have x0 := hB7.cell (i := 0) rfl
    have x1 := hB7.cell (i := 1) rfl
    have x2 := hB7.cell (i := 2) rfl
    have y0 := hB57.cell (i := 0) (v := .int .i64 x) rfl
    have y1 := hB57.cell (i := 1) (v := .slice P 64 d) rfl
    have y2 := hB57.cell (i := 2) (v := .slice Q 4 d') rfl
    obtain ⟨rv, hrv⟩ : ∃ rv, rv = rightB x Ps Qs := ⟨_, rfl⟩
    rw [← hrv] at Hok ⊢
    clear hrv
    cases rv with
    | false =>
      go_wp2_with fail
      obtain ⟨b3, hEf⟩ := Fin.out _ hB7 hE07
      refine bodyPost_ret (results_sig rfl _ _ w.heap.size _ _ _ rfl b3 Try.underlying52 rfl rfl) rfl ?_
      exact ⟨fun h => absurd (Hok.out.symm.trans h) (by simp), fun _ => rfl, hEf⟩
    | true =>
      go_wp2_with fail
      have g1 := fun (w' : World) (u : Value) (i : Nat) => grown_set w' ⟨w.heap.size, i, none⟩ u
      have b1 := hB7.set 0 (.int .i64 x)
      have b2 := b1.set 1 (.slice P 64 d)
      have b3 := b2.set 2 (.slice Q 4 d')
      have oP3 := ((oP.far hB7 (by decide) (sig_no _ _ _ _ _ _ _) (g1 _ (.int .i64 x) 0)).far b1 (by decide) (sig_no _ _ _ _ _ _ _) (g1 _ (.slice P 64 d) 1)).far b2 (by decide) (sig_no _ _ _ _ _ _ _) (g1 _ (.slice Q 4 d') 2)
      have oQ3 := ((oQ.far hB7 (by decide) (sig_no _ _ _ _ _ _ _) (g1 _ (.int .i64 x) 0)).far b1 (by decide) (sig_no _ _ _ _ _ _ _) (g1 _ (.slice P 64 d) 1)).far b2 (by decide) (sig_no _ _ _ _ _ _ _) (g1 _ (.slice Q 4 d') 2)
      have hEf := ((hE07.set (p := ⟨w.heap.size, 0, none⟩) (Nat.le_refl _) (.int .i64 x)).set (p := ⟨w.heap.size, 1, none⟩) (Nat.le_refl _) (.slice P 64 d)).set (p := ⟨w.heap.size, 2, none⟩) (Nat.le_refl _) (.slice Q 4 d')
      refine bodyPost_ret (results_sig rfl _ _ w.heap.size _ _ _ rfl b3 Try.underlying52 rfl rfl) rfl ?_
      rw [Hx.out, HPs.out, HQs.out]
      exact ⟨fun _ => ⟨P, d, Q, d', rfl, oP3.rbb, oQ3.rbb⟩, fun h => absurd (Hok.out.symm.trans h) (by simp), hEf⟩
end Go.Proofs.Ytmgnigofilkfmab

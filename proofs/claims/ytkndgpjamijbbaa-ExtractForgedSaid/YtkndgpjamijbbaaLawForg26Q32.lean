/-
  ExtractForged, walked.
-/
import Derived.Test.YtkndgpjamijbbaaLawForg26Q23
import Derived.Test.YtkndgpjamijbbaaLawForg26Q31
import Derived.Test.YtkndgpjamijbbaaLawForg26Q22
namespace Go.Proofs.Ytkndgpjamijbbaa
set_option maxRecDepth 100000
open Go Go.RowKit
theorem OBL.keep {w w' : World} {base u n c k : Nat} {A : Option Addr} {Ls : List (List UInt8)} (h : OBL w base u A n c Ls) (g : w.grownBy w' (some k)) (hA : blk A ≠ some k) (hk : u ≤ k) : OBL w' base u A n c Ls := by
  obtain ⟨vs, h1, h2, h3⟩ := h
  refine ⟨vs, World.ownsRow.kept h1 g (.inr (by rw [ownBlock_slice]; exact hA)), h2, fun j hj => ?_⟩
  obtain ⟨B, m, d, h4, h5, h6⟩ := h3 j hj
  refine ⟨B, m, d, h4, h5.grown g (fun hm e => ?_), h6⟩
  have := (h6 hm).2 k e
  omega
theorem OBC.turn_at {w0 w5 a : World} {base n c g g5 c5 : Nat} {Ls : List (List UInt8)} {Y : List UInt8} (h : OBC w0 base (some ⟨g, 0, none⟩) n c Ls) (hE : Ext w0 w5) (h5 : OB w5 w0.heap.size (some ⟨g5, 0, none⟩) 32 c5 Y) (i p : Nat) (hi : i < n) (ha : Ext a w0) (hab : a.heap.size ≤ base) :
    (w5.setCell ⟨g, i, none⟩ (.slice (some ⟨g5, 0, none⟩) 32 c5)).cell? ⟨g, i, none⟩ = some (.slice (some ⟨g5, 0, none⟩) 32 c5) ∧ OB (w5.setCell ⟨g, i, none⟩ (.slice (some ⟨g5, 0, none⟩) 32 c5)) w0.heap.size (some ⟨g5, 0, none⟩) 32 c5 Y ∧
    ∀ b : UInt8, RBB ((w5.setCell ⟨g, i, none⟩ (.slice (some ⟨g5, 0, none⟩) 32 c5)).setCell ⟨g5, p, none⟩ (.int .u8 (u8i b))) (some ⟨g, 0, none⟩) n c (Ls.set i (Y.set p b)) ∧ Ext a ((w5.setCell ⟨g, i, none⟩ (.slice (some ⟨g5, 0, none⟩) 32 c5)).setCell ⟨g5, p, none⟩ (.int .u8 (u8i b))) := by
  have hr := h.rbb
  have hlt := h.lt (k := g) rfl
  have hge := h5.ge
  obtain ⟨vs, h1, h2, h3⟩ := h
  have hvl : vs.length = n := by have := h1.1; omega
  have k1 : w5.ownsRow base 22 1 (.slice (some ⟨g, 0, none⟩) n c) n vs := World.ownsRow.kept h1 (hE.grownBy none) (by cases hb : Value.ownBlock (.slice (some ⟨g, 0, none⟩) n c) <;> simp)
  have s := World.ownsRow.stored k1 i (.slice (some ⟨g5, 0, none⟩) 32 c5)
  have h56 : OB (w5.setCell ⟨g, i, none⟩ (.slice (some ⟨g5, 0, none⟩) 32 c5)) w0.heap.size (some ⟨g5, 0, none⟩) 32 c5 Y := h5.grown s.2 (.inr (by intro e; injection e with e; have e' : g5 = g := e; omega))
  refine ⟨?_, h56, fun b => ?_⟩
  · have := World.ownsRow.cells s.1 (g := g) rfl i (.slice (some ⟨g5, 0, none⟩) 32 c5) (by simp [hvl, hi])
    rw [add_plain] at this
    exact this
  · have s2 := h56.set p b
    have k2 := World.ownsRow.kept s.1 s2.2 (.inr (by rw [ownBlock_slice]; intro e; injection e with e; have e' : g = g5 := e; omega))
    refine ⟨⟨by simp [h2], hr.room, hr.cap, fun _ => ⟨_, rfl, fun j hj => ?_⟩⟩, Ext.then_grown (Ext.then_grown (ha.trans hE) s.2 (by intro k hk; cases hk; omega)) s2.2 (by intro k hk; cases hk; have := ha.size; omega)⟩
    rw [lb_set (by omega)]
    by_cases hji : j = i
    · subst hji
      rw [if_pos rfl]
      exact ⟨_, _, _, World.ownsRow.cells k2 (g := g) rfl j (.slice (some ⟨g5, 0, none⟩) 32 c5) (by simp [hvl, hj]), s2.1.rb⟩
    · rw [if_neg hji]
      obtain ⟨B, m, d, h4, h5', h6⟩ := h3 j hj
      refine ⟨B, m, d, World.ownsRow.cells k2 (g := g) rfl j _ (by rw [List.getElem?_set_ne (Ne.symm hji)]; exact h4), ((h5'.ext hE).grown s.2 h6).grown s2.2 ?_⟩
      intro hm e
      have := rb_blk_lt h5' hm _ e
      omega
theorem inL_snoc (Ls : List (List UInt8)) (M : List UInt8) {k : Nat} (hk : k < Ls.length) : inL (Ls.take (k + 1)) M = (inL (Ls.take k) M || decide (lb Ls k = M)) := by
  unfold inL
  rw [List.take_succ_eq_append_getElem hk, List.any_append]
  simp [lb, hk]
def F26I (w9 : World) (HL : List (List UInt8)) (M : List UInt8) (b i : Value) (wr : World) : Prop := ∃ j : Nat, j ≤ HL.length ∧ i = .int .i64 j ∧ b = .bool (inL (HL.take j) M) ∧ Ext w9 wr
set_option maxHeartbeats 32000000 in
theorem forged26_any (n0 k0 i0 : Int) (hn0 : inR n0) (hk0 : inR k0) (hi0 : inR i0) (wth : Bool) (tb : UInt8) (A B : Option Addr) (na ca m e' : Nat) (Ls : List (List UInt8)) (M0 : List UInt8) (w : World) (hr : RBB w A na ca Ls) (hM : RB w B m e' M0) :
    Calls Try.prog 6 #[.int .i64 n0, .int .i64 k0, .slice B m e', .slice A na ca, .bool wth, .int .u8 (u8i tb), .int .i64 i0] w fun e w' => e = .returned (.bool true) ∧ Ext w w' := by
  obtain ⟨k, hk⟩ : ∃ k : Nat, within k0 0 15 = (k : Int) := ⟨(within k0 0 15).toNat, (Int.toNat_of_nonneg (by have := (within_in k0 0 15 (by omega)).1; omega)).symm⟩
  have hk16 : k < 16 := by have := (within_in k0 0 15 (by omega)).2; omega
  obtain ⟨i, hi⟩ : ∃ i : Nat, within i0 0 63 = (i : Int) := ⟨(within i0 0 63).toNat, (Int.toNat_of_nonneg (by have := (within_in i0 0 63 (by omega)).1; omega)).symm⟩
  have hi64 : i < 64 := by have := (within_in i0 0 63 (by omega)).2; omega
  have Hk := Lib.hid hk
  have Hi := Lib.hid hi
  clear hk hi
  go_enter Try.func6, Try.ntmps6
  go_wp2_with fail
  refine (seed_any n0 w hn0.1 hn0.2).mono ?_
  rintro e w1 ⟨A1, c1, rfl, own1, hE1⟩
  obtain ⟨S, hS⟩ : ∃ S, S = seedL n0 := ⟨_, rfl⟩
  rw [← hS] at own1
  clear hS
  have rS := own1.rb
  go_wp2_with fail
  refine (rnew_any A1 c1 S w1 rS).mono ?_
  rintro e w2 ⟨g15, rfl, o15, hE⟩
  replace hE1 := hE1.trans hE
  replace hr := hr.ext hE1
  have hMw := hM
  replace hM := hM.ext hE1
  clear hE own1 rS
  have hc := cut_any B m e' 60 M0 w2 hM (by omega)
  have e60 : ((60 : Nat) : Int) = 60 := rfl
  have e6 : ((6 : Nat) : Int) = 6 := rfl
  rw [e60] at hc
  have Hc := Lib.hid hc
  clear hc
  go_wp2_with fail
  refine Hc.out.mono ?_
  rintro e w3 ⟨⟨rfl, rM⟩, rfl⟩
  clear Hc
  have rMw : RB w B (min m 60) e' (M0.take 60) := by
    have h := hMw.take (k := min m 60) (by omega)
    have e : M0.take (min m 60) = M0.take 60 := by
      by_cases h1 : m ≤ 60
      · rw [Nat.min_eq_left h1, List.take_of_length_le (by rw [hMw.len]; exact Nat.le_refl _), List.take_of_length_le (by rw [hMw.len]; exact h1)]
      · rw [Nat.min_eq_right (by omega)]
    rwa [e] at h
  have hm60 : min m 60 ≤ 60 := by omega
  clear hM hMw
  generalize min m 60 = m at *
  generalize M0.take 60 = M at *
  have lenV : M.length ≤ 1000000 := by rw [rM.len]; omega
  have hfa := few_any A na ca 6 60 Ls w2 hr (by omega) (by omega)
  rw [e60, e6] at hfa
  have Hfa := Lib.hid hfa
  have hla : (fewL 60 (Ls.take 6)).length = min na 6 := by rw [fewL_len, List.length_take, hr.len]; omega
  have hq6 : min na 6 ≤ 6 := by omega
  clear hfa e60 e6
  go_wp2_with fail
  refine Hfa.out.mono ?_
  rintro e w4 ⟨A2, d2, rfl, oH, hE⟩
  clear Hfa hr
  have hge2 : w.heap.size ≤ w2.heap.size := hE1.size
  have hE12 := hE1
  have hE24 := hE
  clear hE hE1
  generalize fewL 60 (Ls.take 6) = LL at *
  generalize min na 6 = q at *
  cases wth with
  | true =>
    have hEa := Ext.new w4 (.cells #[.slice B m e'] 22)
    have hBa := Blk.new w4 22 #[.slice B m e']
    have oH2 := oH.ext hEa
    have hneB : 0 < m → blk B ≠ blk A2 := by
      intro hm e
      obtain ⟨b, hb⟩ : ∃ b, blk B = some b := by
        obtain ⟨ad', h1, _⟩ := rMw.cells hm
        rw [h1]
        exact ⟨_, rfl⟩
      have h1 := rb_blk_lt rMw hm b hb
      have h2 := oH.lt (e.symm.trans hb)
      omega
    go_upto_region 6 with (refine appbc_law (base := w2.heap.size) (Y := M) rfl rfl rfl rfl (by rw [add_plain]; exact hBa.cell (i := 0) rfl) oH2 (rM.ext (hE24.trans hEa)) hneB (Nat.le_trans hE24.size hEa.size) (by omega) ?_; intro A3 d3 w5 oH3 g5)
    have hE25 := (hE24.trans hEa).then_grown g5 (fun b hb => (oH2.lt hb).1)
    obtain ⟨nh, hnh⟩ : ∃ nh, nh = q + 1 := ⟨_, rfl⟩
    rw [← hnh] at oH3 ⊢
    have hnh7 : nh ≤ 7 := by omega
    generalize LL ++ [M] = HL at *
    clear hnh hla hq6 hneB oH2 hBa hEa oH g5 hE24
    have rH := oH3.rbb
    replace rM := rM.ext hE25
    replace o15 := o15.ext hE25
    have hEw := hE12.trans hE25
    clear oH3 hE25 hE12
    go_wp2_with fail
    refine (within_any k0 0 15 w5 hk0.1 hk0.2 (by omega) (by omega) (by omega)).mono ?_
    rintro e x1 ⟨rfl, rfl⟩
    rw [Hk.out]
    clear Hk
    go_wp2_with fail
    refine (rsign_l B g15 _ m e' k S M w5 o15 rM (by omega) hk16).mono ?_
    rintro e wS ⟨P, dp, Q, dq, rfl, oP, ⟨q1, hq1, hq2, oQ⟩, hE⟩
    have hrs := (root_sign M S (k : Int)).1
    have hvo := verB_own S M k hk16
    obtain ⟨PS, hPS⟩ : ∃ PS, PS = (List.range 64).map (partS (digestW M) S (k : Int)) := ⟨_, rfl⟩
    obtain ⟨QS, hQS⟩ : ∃ QS, QS = pathL S k := ⟨_, rfl⟩
    rw [← hPS] at oP hrs
    rw [← hQS] at oQ
    clear hPS hQS hvo
    obtain ⟨ad, rfl, _⟩ := oP.rbb.cells (by omega)
    obtain ⟨gP, rfl⟩ := oP.plain
    have hP1 := oP.lt (k := gP) rfl
    have hP2 := hq1 gP rfl
    have hlen := hrs.2 i hi64
    have hPl := hrs.1
    have hEn := Ext.new wS (.cells #[.int .i64 (k : Int), .slice (some ⟨gP, 0, none⟩) 64 dp, .slice Q 4 dq] 42)
    have hB16 := Blk.new wS 42 #[.int .i64 (k : Int), .slice (some ⟨gP, 0, none⟩) 64 dp, .slice Q 4 dq]
    replace hE := hE.trans hEn
    have hS1 : (wS.alloc (.cells #[.int .i64 (k : Int), .slice (some ⟨gP, 0, none⟩) 64 dp, .slice Q 4 dq] 42)).heap.size = wS.heap.size + 1 := World.size_alloc _ _
    replace oP := oP.ext hEn
    replace oQ := oQ.ext hEn
    have hQlt : ∀ x, blk Q = some x → q1 ≤ x ∧ x < wS.heap.size + 1 := fun x hx => by have h := oQ.lt hx; rw [hS1] at h; exact h
    clear hEn hrs hq1
    go_wp2_with fail
    generalize wS.alloc (.cells #[.int .i64 (k : Int), .slice (some ⟨gP, 0, none⟩) 64 dp, .slice Q 4 dq] 42) = w6 at *
    generalize wS.heap.size = g16 at *
    refine (within_any i0 0 63 w6 hi0.1 hi0.2 (by omega) (by omega) (by omega)).mono ?_
    rintro e x1 ⟨rfl, rfl⟩
    rw [Hi.out]
    clear Hi
    have rP := oP.rbb
    have rQ := oQ.obc.rbb
    obtain ⟨ad, had, hcs⟩ := rP.cells (by omega)
    injection had with had
    subst had
    obtain ⟨E, z, y, hcE, rE⟩ := hcs i hi64
    obtain rfl : z = 32 := rE.len.symm.trans hlen
    clear hcs
    go_upto_region 8 with (fail)
    refine par_ext (n := 10) (by kernel_rfl) [.is (.pointer (some ⟨g16, 1, none⟩)), .is (.slice ((some ⟨gP, 0, none⟩)) (64) (dp)), .is (.int .i64 (((i : Nat) : Int))), .em 0, .is (.pointer (some ⟨g16, 1, none⟩)), .is (.slice ((some ⟨gP, 0, none⟩)) (64) (dp)), .is (.int .i64 (((i : Nat) : Int))), .is (.pointer (some ((⟨gP, 0, none⟩ : Addr).add i))), .is (.slice (E) (32) (y)), .ob32 (w6.heap.size) (lb PS i)] rfl ⟨?_, ?_, ?_, ?_, ?_, ?_, ?_, ?_, ?_, ?_, trivial⟩ ?_
    · refine stepE rfl fun sdn sa sw sE sd sk => ?_
      have h16 : sa.eval (.tmp 16) = .pointer (some ⟨g16, 0, none⟩) := sk.old 16 rfl
      refine Runs.of_run (r := .pointer (some ⟨g16, 1, none⟩)) (w' := sw) ?_ ⟨Ext.refl _, rfl⟩
      unfold execOp
      simp only [h16]
      go_simp
    · refine stepE rfl fun sdn sa sw sE sd sk => ?_
      have h39 : sa.eval (.tmp 39) = .pointer (some ⟨g16, 1, none⟩) := sk.fact 0 39 rfl (sd 0 rfl)
      exact Runs.load rfl h39 (run_load1 Try.underlying23 rfl ((hB16.ext sE).cell (i := 1) rfl)) ⟨Ext.refl _, rfl⟩
    · refine stepE rfl fun sdn sa sw sE sd sk => ?_
      have h17 : sa.eval (.tmp 17) = .int .i64 (((i : Nat) : Int)) := sk.old 17 rfl
      exact Runs.move rfl h17 ⟨Ext.refl _, rfl⟩
    · refine stepE rfl fun sdn sa sw sE sd sk => ?_
      exact Runs.lit0 rfl (fun w1 e1 o1 => ⟨e1, _, rfl, o1.rb⟩)
    · refine stepE rfl fun sdn sa sw sE sd sk => ?_
      have h16 : sa.eval (.tmp 16) = .pointer (some ⟨g16, 0, none⟩) := sk.old 16 rfl
      refine Runs.of_run (r := .pointer (some ⟨g16, 1, none⟩)) (w' := sw) ?_ ⟨Ext.refl _, rfl⟩
      unfold execOp
      simp only [h16]
      go_simp
    · refine stepE rfl fun sdn sa sw sE sd sk => ?_
      have h43 : sa.eval (.tmp 43) = .pointer (some ⟨g16, 1, none⟩) := sk.fact 4 43 rfl (sd 4 rfl)
      exact Runs.load rfl h43 (run_load1 Try.underlying23 rfl ((hB16.ext sE).cell (i := 1) rfl)) ⟨Ext.refl _, rfl⟩
    · refine stepE rfl fun sdn sa sw sE sd sk => ?_
      have h17 : sa.eval (.tmp 17) = .int .i64 (((i : Nat) : Int)) := sk.old 17 rfl
      exact Runs.move rfl h17 ⟨Ext.refl _, rfl⟩
    · refine stepE rfl fun sdn sa sw sE sd sk => ?_
      have h44 : sa.eval (.tmp 44) = .slice ((some ⟨gP, 0, none⟩)) (64) (dp) := sk.fact 5 44 rfl (sd 5 rfl)
      have h45 : sa.eval (.tmp 45) = .int .i64 (((i : Nat) : Int)) := sk.fact 6 45 rfl (sd 6 rfl)
      exact Runs.idx rfl h44 h45 (run_idx_sl1 Try.underlying23 infZZ_eq infZZ_size i (by first | rfl | omega) (by omega)) ⟨Ext.refl _, rfl⟩
    · refine stepE rfl fun sdn sa sw sE sd sk => ?_
      have h46 : sa.eval (.tmp 46) = .pointer (some ((⟨gP, 0, none⟩ : Addr).add i)) := sk.fact 7 46 rfl (sd 7 rfl)
      exact Runs.load rfl h46 (run_load1 Try.underlying22 rfl (sE.cell hcE)) ⟨Ext.refl _, rfl⟩
    · refine stepE rfl fun sdn sa sw sE sd sk => ?_
      obtain ⟨g42, h42, r42⟩ := sk.fact 3 42 rfl (sd 3 rfl)
      have h47 : sa.eval (.tmp 47) = .slice (E) (32) (y) := sk.fact 8 47 rfl (sd 8 rfl)
      refine Runs.appFull rfl h42 h47 r42 (rE.ext sE) (by omega) (by omega) (fun A' c' w1 o1 e1 => ?_); obtain ⟨ad', rfl, _⟩ := o1.rb.cells (by omega); obtain ⟨g', rfl⟩ := o1.plain; exact ⟨e1, g', c', rfl, (show OB w1 sw.heap.size _ 32 c' (lb PS i) by simpa using o1).base sE.size⟩
    intro vals W8 hE8 hv8
    have e0 : vals 0 = .pointer (some ⟨g16, 1, none⟩) := hv8 0 (by omega) 39 rfl
    have e1 : vals 1 = .slice ((some ⟨gP, 0, none⟩)) (64) (dp) := hv8 1 (by omega) 40 rfl
    have e2 : vals 2 = .int .i64 (((i : Nat) : Int)) := hv8 2 (by omega) 41 rfl
    obtain ⟨g42, e3, r42⟩ := hv8 3 (by omega) 42 rfl
    have e4 : vals 4 = .pointer (some ⟨g16, 1, none⟩) := hv8 4 (by omega) 43 rfl
    have e5 : vals 5 = .slice ((some ⟨gP, 0, none⟩)) (64) (dp) := hv8 5 (by omega) 44 rfl
    have e6 : vals 6 = .int .i64 (((i : Nat) : Int)) := hv8 6 (by omega) 45 rfl
    have e7 : vals 7 = .pointer (some ((⟨gP, 0, none⟩ : Addr).add i)) := hv8 7 (by omega) 46 rfl
    have e8 : vals 8 = .slice (E) (32) (y) := hv8 8 (by omega) 47 rfl
    obtain ⟨g48, d48, e9, o48⟩ := hv8 9 (by omega) 48 rfl
    simp only [putAll, Act.put, List.take_succ_cons, List.take_zero, List.drop_succ_cons, List.drop_zero, List.drop_nil, List.take_nil, Nat.reduceAdd, List.setIfInBounds_toArray, List.set_cons_succ, List.set_cons_zero, e0, e1, e2, e3, e4, e5, e6, e7, e8, e9]
    clear hv8 e0 e1 e2 e3 e4 e5 e6 e7 e8 e9
    have hB16a := hB16.ext hE8
    have y1 := hE8.cell hcE
    rw [add_plain] at y1
    have y2 := (oP.ext hE8).frozen i
    have hg48 := (o48.lt (k := g48) rfl).1
    go_upto_region 9 with (fail)
    have hT := OBC.turn_at oP hE8 o48 i 1 hi64 hE (Nat.le_refl _)
    have gs1 := grown_set W8 ⟨gP, i, none⟩ (.slice (some ⟨g48, 0, none⟩) 32 d48)
    have hB16b := hB16a.far (p := ⟨gP, i, none⟩) (by show g16 ≠ gP; omega) (.slice (some ⟨g48, 0, none⟩) 32 d48)
    have oQ2 := (oQ.ext hE8).keep gs1 (fun e => by have := hQlt gP e; omega) hP1.1
    obtain ⟨w9, hw9⟩ : ∃ w9, w9 = W8.setCell ⟨gP, i, none⟩ (.slice (some ⟨g48, 0, none⟩) 32 d48) := ⟨_, rfl⟩
    rw [← hw9] at hT hB16b oQ2 ⊢
    obtain ⟨z1, own6, hT⟩ := hT
    have HT := Lib.hid hT
    have z2 := own6.cell (i := 1) (by omega)
    have z3 := own6.frozen 1
    have z4 := bits_xor8t (ub (lb PS i) 1) tb
    have z5 := hB16b.cell (i := 1) (v := .slice (some ⟨gP, 0, none⟩) 64 dp) rfl
    clear hT y1 y2 hB16a gs1 hw9
    go_upto_region 10 with (fail)
    obtain ⟨rT, hEA⟩ := HT.out (ub (lb PS i) 1 ^^^ tb)
    have gs2 := grown_set w9 ⟨g48, 1, none⟩ (.int .u8 (u8i (ub (lb PS i) 1 ^^^ tb)))
    have hg48n : g16 < g48 := by have := hB16.lt; omega
    have hB16c := hB16b.far (p := ⟨g48, 1, none⟩) (by show g16 ≠ g48; omega) (.int .u8 (u8i (ub (lb PS i) 1 ^^^ tb)))
    have oQ3 := oQ2.keep gs2 (fun e => by have := hQlt g48 e; omega) (by show w5.heap.size ≤ g48; omega)
    obtain ⟨PT, hPT⟩ : ∃ PT, PT = PS.set i ((lb PS i).set 1 (ub (lb PS i) 1 ^^^ tb)) := ⟨_, rfl⟩
    rw [← hPT] at rT
    clear hPT z1 z2 z3 z4 z5 own6 HT oQ2 hB16b hB16 oQ oP rP rQ rE hcE hE8 o48 hE gs2 hQlt hlen hPl
    generalize w9.setCell ⟨g48, 1, none⟩ (.int .u8 (u8i (ub (lb PS i) 1 ^^^ tb))) = wA at *
    replace rM := rM.ext hEA
    replace o15 := o15.ext hEA
    replace rH := rH.ext hEA
    replace hEw := hEw.trans hEA
    have rQ := oQ3.obc.rbb
    clear hEA oQ3
    have Hhl := Lib.hid rH.len
    go_wp2_with fail
    go_loopw [18, 19] (fun b i wr => F26I wA HL M b i wr) (fun _ i _ => nh - (intOf i).toNat)
    case atStart => exact ⟨0, by omega, rfl, rfl, Ext.refl _⟩
    case round =>
      obtain ⟨j, hj, rfl, rfl, hEr⟩ := hrel
      rw [Hhl.out] at hj
      have HRH := Lib.hid rH
      have HRM := Lib.hid rM
      replace rH := rH.ext hEr
      replace rM := rM.ext hEr
      have hroomH := rH.room
      have hcapH := rH.cap
      unfold maxLen at hcapH
      by_cases hlt : j < nh
      · have hji : (j : Int) < (nh : Int) := by omega
        have hsn := inL_snoc HL M (k := j) (by rw [Hhl.out]; exact hlt)
        have Hsn := Lib.hid hsn
        obtain ⟨ad, rfl, hcs⟩ := rH.cells (by omega)
        obtain ⟨H, z, y, hcj, rHj⟩ := hcs j hlt
        clear hcs hsn
        cases hb : inL (HL.take j) M with
        | true =>
          have Hb := Lib.hid hb
          clear hb
          go_upto_region 14 with (fail)
          refine par_ext (n := 11) (by kernel_rfl) [.is (.bool (true)), .is (.bool (true)), .is undef, .is undef, .is undef, .is undef, .is undef, .is undef, .is undef, .is undef, .is (.bool (true))] rfl ⟨?_, ?_, ?_, ?_, ?_, ?_, ?_, ?_, ?_, ?_, ?_, trivial⟩ ?_
          · refine stepE rfl fun sdn sa sw sE sd sk => ?_
            have h18 : sa.eval (.tmp 18) = .bool (true) := sk.old 18 rfl
            exact Runs.move rfl h18 ⟨Ext.refl _, rfl⟩
          · refine stepE rfl fun sdn sa sw sE sd sk => ?_
            have h66 : sa.eval (.tmp 66) = .bool (true) := sk.fact 0 66 rfl (sd 0 rfl)
            exact Runs.move rfl h66 ⟨Ext.refl _, rfl⟩
          · exact stepN (j := 1) (d := 67) (b := true) rfl rfl rfl (fun v w h => h) fun w => rfl
          · exact stepN (j := 1) (d := 67) (b := true) rfl rfl rfl (fun v w h => h) fun w => rfl
          · exact stepN (j := 1) (d := 67) (b := true) rfl rfl rfl (fun v w h => h) fun w => rfl
          · exact stepN (j := 1) (d := 67) (b := true) rfl rfl rfl (fun v w h => h) fun w => rfl
          · exact stepN (j := 1) (d := 67) (b := true) rfl rfl rfl (fun v w h => h) fun w => rfl
          · exact stepN (j := 1) (d := 67) (b := true) rfl rfl rfl (fun v w h => h) fun w => rfl
          · exact stepN (j := 1) (d := 67) (b := true) rfl rfl rfl (fun v w h => h) fun w => rfl
          · exact stepN (j := 1) (d := 67) (b := true) rfl rfl rfl (fun v w h => h) fun w => rfl
          · refine stepE rfl fun sdn sa sw sE sd sk => ?_
            have h67 : sa.eval (.tmp 67) = .bool (true) := sk.fact 1 67 rfl (sd 1 rfl)
            exact Runs.pick rfl h67 ⟨Ext.refl _, rfl⟩
          intro vals W14 hE14 hv14
          have e0 : vals 0 = .bool (true) := hv14 0 (by omega) 66 rfl
          have e1 : vals 1 = .bool (true) := hv14 1 (by omega) 67 rfl
          have e10 : vals 10 = .bool (true) := hv14 10 (by omega) 76 rfl
          simp only [putAll, Act.put, List.take_succ_cons, List.take_zero, List.drop_succ_cons, List.drop_zero, List.drop_nil, List.take_nil, Nat.reduceAdd, List.setIfInBounds_toArray, List.set_cons_succ, List.set_cons_zero, e0, e1, e10]
          clear hv14 e0 e1 e10
          clear rH rM rHj hcj
          have rH := HRH.out
          have rM := HRM.out
          go_wp2_with fail
          go_roundw
          case rel => exact ⟨j + 1, by rw [Hhl.out]; omega, by go_num, by rw [Hsn.out, Hb.out]; rfl, hEr.trans hE14⟩
          case measure => simp [intOf]; omega
        | false =>
          have Hb := Lib.hid hb
          clear hb
          by_cases heq : lb HL j = M
          · have Heq := Lib.hid heq
            go_upto_region 14 with (fail)
            refine par_ext (n := 11) (by kernel_rfl) [.is (.bool (false)), .is (.bool (false)), .is (.slice ((some ad)) (nh) (d3)), .is (.int .i64 (((j : Nat) : Int))), .is (.pointer (some (ad.add j))), .is (.slice (H) (z) (y)), .is (.string (str (lb HL j))), .is (.slice (B) (m) (e')), .is (.string (str (M))), .is (.bool (true)), .is (.bool (true))] rfl ⟨?_, ?_, ?_, ?_, ?_, ?_, ?_, ?_, ?_, ?_, ?_, trivial⟩ ?_
            · refine stepE rfl fun sdn sa sw sE sd sk => ?_
              have h18 : sa.eval (.tmp 18) = .bool (false) := sk.old 18 rfl
              exact Runs.move rfl h18 ⟨Ext.refl _, rfl⟩
            · refine stepE rfl fun sdn sa sw sE sd sk => ?_
              have h66 : sa.eval (.tmp 66) = .bool (false) := sk.fact 0 66 rfl (sd 0 rfl)
              exact Runs.move rfl h66 ⟨Ext.refl _, rfl⟩
            · refine stepY (j := 1) (d := 67) (b := false) rfl rfl rfl (fun v w h => h) fun sdn sa sw sE sd sk => ?_
              have h3 : sa.eval (.tmp 3) = .slice ((some ad)) (nh) (d3) := sk.old 3 rfl
              exact Runs.move rfl h3 ⟨Ext.refl _, rfl⟩
            · refine stepY (j := 1) (d := 67) (b := false) rfl rfl rfl (fun v w h => h) fun sdn sa sw sE sd sk => ?_
              have h19 : sa.eval (.tmp 19) = .int .i64 (((j : Nat) : Int)) := sk.old 19 rfl
              exact Runs.move rfl h19 ⟨Ext.refl _, rfl⟩
            · refine stepY (j := 1) (d := 67) (b := false) rfl rfl rfl (fun v w h => h) fun sdn sa sw sE sd sk => ?_
              have h68 : sa.eval (.tmp 68) = .slice ((some ad)) (nh) (d3) := sk.fact 2 68 rfl (sd 2 rfl)
              have h69 : sa.eval (.tmp 69) = .int .i64 (((j : Nat) : Int)) := sk.fact 3 69 rfl (sd 3 rfl)
              exact Runs.idx rfl h68 h69 (run_idx_sl1 Try.underlying23 infZZ_eq infZZ_size j (by first | rfl | omega) (by omega)) ⟨Ext.refl _, rfl⟩
            · refine stepY (j := 1) (d := 67) (b := false) rfl rfl rfl (fun v w h => h) fun sdn sa sw sE sd sk => ?_
              have h70 : sa.eval (.tmp 70) = .pointer (some (ad.add j)) := sk.fact 4 70 rfl (sd 4 rfl)
              exact Runs.load rfl h70 (run_load1 Try.underlying22 rfl (sE.cell hcj)) ⟨Ext.refl _, rfl⟩
            · refine stepY (j := 1) (d := 67) (b := false) rfl rfl rfl (fun v w h => h) fun sdn sa sw sE sd sk => ?_
              have h71 : sa.eval (.tmp 71) = .slice (H) (z) (y) := sk.fact 5 71 rfl (sd 5 rfl)
              exact Runs.conv rfl h71 (run_str (rHj.ext sE)) ⟨Ext.refl _, rfl⟩
            · refine stepY (j := 1) (d := 67) (b := false) rfl rfl rfl (fun v w h => h) fun sdn sa sw sE sd sk => ?_
              have h2 : sa.eval (.tmp 2) = .slice (B) (m) (e') := sk.old 2 rfl
              exact Runs.move rfl h2 ⟨Ext.refl _, rfl⟩
            · refine stepY (j := 1) (d := 67) (b := false) rfl rfl rfl (fun v w h => h) fun sdn sa sw sE sd sk => ?_
              have h73 : sa.eval (.tmp 73) = .slice (B) (m) (e') := sk.fact 7 73 rfl (sd 7 rfl)
              exact Runs.conv rfl h73 (run_str (rM.ext sE)) ⟨Ext.refl _, rfl⟩
            · refine stepY (j := 1) (d := 67) (b := false) rfl rfl rfl (fun v w h => h) fun sdn sa sw sE sd sk => ?_
              have h72 : sa.eval (.tmp 72) = .string (str (lb HL j)) := sk.fact 6 72 rfl (sd 6 rfl)
              have h74 : sa.eval (.tmp 74) = .string (str (M)) := sk.fact 8 74 rfl (sd 8 rfl)
              exact Runs.bin rfl h72 h74 (by rfl) (bin_eqs _ _ _) ⟨Ext.refl _, congrArg Value.bool (by simp [heq])⟩
            · refine stepE rfl fun sdn sa sw sE sd sk => ?_
              have h67 : sa.eval (.tmp 67) = .bool (false) := sk.fact 1 67 rfl (sd 1 rfl)
              have h75 : sa.eval (.tmp 75) = .bool (true) := sk.fact 9 75 rfl (sd 9 rfl)
              exact Runs.pick rfl h67 ⟨Ext.refl _, by first | exact h75 | simpa using h75⟩
            intro vals W14 hE14 hv14
            have e0 : vals 0 = .bool (false) := hv14 0 (by omega) 66 rfl
            have e1 : vals 1 = .bool (false) := hv14 1 (by omega) 67 rfl
            have e2 : vals 2 = .slice ((some ad)) (nh) (d3) := hv14 2 (by omega) 68 rfl
            have e3 : vals 3 = .int .i64 (((j : Nat) : Int)) := hv14 3 (by omega) 69 rfl
            have e4 : vals 4 = .pointer (some (ad.add j)) := hv14 4 (by omega) 70 rfl
            have e5 : vals 5 = .slice (H) (z) (y) := hv14 5 (by omega) 71 rfl
            have e6 : vals 6 = .string (str (lb HL j)) := hv14 6 (by omega) 72 rfl
            have e7 : vals 7 = .slice (B) (m) (e') := hv14 7 (by omega) 73 rfl
            have e8 : vals 8 = .string (str (M)) := hv14 8 (by omega) 74 rfl
            have e9 : vals 9 = .bool (true) := hv14 9 (by omega) 75 rfl
            have e10 : vals 10 = .bool (true) := hv14 10 (by omega) 76 rfl
            simp only [putAll, Act.put, List.take_succ_cons, List.take_zero, List.drop_succ_cons, List.drop_zero, List.drop_nil, List.take_nil, Nat.reduceAdd, List.setIfInBounds_toArray, List.set_cons_succ, List.set_cons_zero, e0, e1, e2, e3, e4, e5, e6, e7, e8, e9, e10]
            clear hv14 e0 e1 e2 e3 e4 e5 e6 e7 e8 e9 e10
            clear rH rM rHj hcj heq
            have rH := HRH.out
            have rM := HRM.out
            go_wp2_with fail
            go_roundw
            case rel => exact ⟨j + 1, by rw [Hhl.out]; omega, by go_num, by rw [Hsn.out, Hb.out, decide_eq_true Heq.out]; rfl, hEr.trans hE14⟩
            case measure => simp [intOf]; omega
          · have Heq := Lib.hid heq
            go_upto_region 14 with (fail)
            refine par_ext (n := 11) (by kernel_rfl) [.is (.bool (false)), .is (.bool (false)), .is (.slice ((some ad)) (nh) (d3)), .is (.int .i64 (((j : Nat) : Int))), .is (.pointer (some (ad.add j))), .is (.slice (H) (z) (y)), .is (.string (str (lb HL j))), .is (.slice (B) (m) (e')), .is (.string (str (M))), .is (.bool (false)), .is (.bool (false))] rfl ⟨?_, ?_, ?_, ?_, ?_, ?_, ?_, ?_, ?_, ?_, ?_, trivial⟩ ?_
            · refine stepE rfl fun sdn sa sw sE sd sk => ?_
              have h18 : sa.eval (.tmp 18) = .bool (false) := sk.old 18 rfl
              exact Runs.move rfl h18 ⟨Ext.refl _, rfl⟩
            · refine stepE rfl fun sdn sa sw sE sd sk => ?_
              have h66 : sa.eval (.tmp 66) = .bool (false) := sk.fact 0 66 rfl (sd 0 rfl)
              exact Runs.move rfl h66 ⟨Ext.refl _, rfl⟩
            · refine stepY (j := 1) (d := 67) (b := false) rfl rfl rfl (fun v w h => h) fun sdn sa sw sE sd sk => ?_
              have h3 : sa.eval (.tmp 3) = .slice ((some ad)) (nh) (d3) := sk.old 3 rfl
              exact Runs.move rfl h3 ⟨Ext.refl _, rfl⟩
            · refine stepY (j := 1) (d := 67) (b := false) rfl rfl rfl (fun v w h => h) fun sdn sa sw sE sd sk => ?_
              have h19 : sa.eval (.tmp 19) = .int .i64 (((j : Nat) : Int)) := sk.old 19 rfl
              exact Runs.move rfl h19 ⟨Ext.refl _, rfl⟩
            · refine stepY (j := 1) (d := 67) (b := false) rfl rfl rfl (fun v w h => h) fun sdn sa sw sE sd sk => ?_
              have h68 : sa.eval (.tmp 68) = .slice ((some ad)) (nh) (d3) := sk.fact 2 68 rfl (sd 2 rfl)
              have h69 : sa.eval (.tmp 69) = .int .i64 (((j : Nat) : Int)) := sk.fact 3 69 rfl (sd 3 rfl)
              exact Runs.idx rfl h68 h69 (run_idx_sl1 Try.underlying23 infZZ_eq infZZ_size j (by first | rfl | omega) (by omega)) ⟨Ext.refl _, rfl⟩
            · refine stepY (j := 1) (d := 67) (b := false) rfl rfl rfl (fun v w h => h) fun sdn sa sw sE sd sk => ?_
              have h70 : sa.eval (.tmp 70) = .pointer (some (ad.add j)) := sk.fact 4 70 rfl (sd 4 rfl)
              exact Runs.load rfl h70 (run_load1 Try.underlying22 rfl (sE.cell hcj)) ⟨Ext.refl _, rfl⟩
            · refine stepY (j := 1) (d := 67) (b := false) rfl rfl rfl (fun v w h => h) fun sdn sa sw sE sd sk => ?_
              have h71 : sa.eval (.tmp 71) = .slice (H) (z) (y) := sk.fact 5 71 rfl (sd 5 rfl)
              exact Runs.conv rfl h71 (run_str (rHj.ext sE)) ⟨Ext.refl _, rfl⟩
            · refine stepY (j := 1) (d := 67) (b := false) rfl rfl rfl (fun v w h => h) fun sdn sa sw sE sd sk => ?_
              have h2 : sa.eval (.tmp 2) = .slice (B) (m) (e') := sk.old 2 rfl
              exact Runs.move rfl h2 ⟨Ext.refl _, rfl⟩
            · refine stepY (j := 1) (d := 67) (b := false) rfl rfl rfl (fun v w h => h) fun sdn sa sw sE sd sk => ?_
              have h73 : sa.eval (.tmp 73) = .slice (B) (m) (e') := sk.fact 7 73 rfl (sd 7 rfl)
              exact Runs.conv rfl h73 (run_str (rM.ext sE)) ⟨Ext.refl _, rfl⟩
            · refine stepY (j := 1) (d := 67) (b := false) rfl rfl rfl (fun v w h => h) fun sdn sa sw sE sd sk => ?_
              have h72 : sa.eval (.tmp 72) = .string (str (lb HL j)) := sk.fact 6 72 rfl (sd 6 rfl)
              have h74 : sa.eval (.tmp 74) = .string (str (M)) := sk.fact 8 74 rfl (sd 8 rfl)
              exact Runs.bin rfl h72 h74 (by rfl) (bin_eqs _ _ _) ⟨Ext.refl _, congrArg Value.bool (by simp [heq])⟩
            · refine stepE rfl fun sdn sa sw sE sd sk => ?_
              have h67 : sa.eval (.tmp 67) = .bool (false) := sk.fact 1 67 rfl (sd 1 rfl)
              have h75 : sa.eval (.tmp 75) = .bool (false) := sk.fact 9 75 rfl (sd 9 rfl)
              exact Runs.pick rfl h67 ⟨Ext.refl _, by first | exact h75 | simpa using h75⟩
            intro vals W14 hE14 hv14
            have e0 : vals 0 = .bool (false) := hv14 0 (by omega) 66 rfl
            have e1 : vals 1 = .bool (false) := hv14 1 (by omega) 67 rfl
            have e2 : vals 2 = .slice ((some ad)) (nh) (d3) := hv14 2 (by omega) 68 rfl
            have e3 : vals 3 = .int .i64 (((j : Nat) : Int)) := hv14 3 (by omega) 69 rfl
            have e4 : vals 4 = .pointer (some (ad.add j)) := hv14 4 (by omega) 70 rfl
            have e5 : vals 5 = .slice (H) (z) (y) := hv14 5 (by omega) 71 rfl
            have e6 : vals 6 = .string (str (lb HL j)) := hv14 6 (by omega) 72 rfl
            have e7 : vals 7 = .slice (B) (m) (e') := hv14 7 (by omega) 73 rfl
            have e8 : vals 8 = .string (str (M)) := hv14 8 (by omega) 74 rfl
            have e9 : vals 9 = .bool (false) := hv14 9 (by omega) 75 rfl
            have e10 : vals 10 = .bool (false) := hv14 10 (by omega) 76 rfl
            simp only [putAll, Act.put, List.take_succ_cons, List.take_zero, List.drop_succ_cons, List.drop_zero, List.drop_nil, List.take_nil, Nat.reduceAdd, List.setIfInBounds_toArray, List.set_cons_succ, List.set_cons_zero, e0, e1, e2, e3, e4, e5, e6, e7, e8, e9, e10]
            clear hv14 e0 e1 e2 e3 e4 e5 e6 e7 e8 e9 e10
            clear rH rM rHj hcj heq
            have rH := HRH.out
            have rM := HRM.out
            go_wp2_with fail
            go_roundw
            case rel => exact ⟨j + 1, by rw [Hhl.out]; omega, by go_num, by rw [Hsn.out, Hb.out, decide_eq_false Heq.out]; rfl, hEr.trans hE14⟩
            case measure => simp [intOf]; omega
      · obtain rfl : j = nh := by omega
        have e1 : HL.take j = HL := List.take_of_length_le (by rw [Hhl.out]; omega)
        rw [e1]
        clear e1 HRH HRM
        replace o15 := o15.ext hEr
        replace rT := rT.ext hEr
        replace rQ := rQ.ext hEr
        replace hB16c := hB16c.ext hEr
        replace hEw := hEw.trans hEr
        have rP := rT
        have hB16 := hB16c
        clear rT hB16c hEr
        go_upto_region 15 with (fail)
        cases hb : inL HL M with
        | true =>
          have Hb := Lib.hid hb
          clear hb
          cases hv : verB (ownP S) M ((k : Nat) : Int) PT QS with
          | true =>
            have Hv := Lib.hid hv
            clear hv
            refine par_ext (n := 19) (by kernel_rfl) [.is (.pointer (some ⟨g15, 0, none⟩)), .rk (32) (ownP S), .is (.slice (A3) (j) (d3)), .is (.slice (B) (m) (e')), .is (.agg #[.int .i64 (((k : Nat) : Int)), .slice ((some ⟨gP, 0, none⟩)) (64) (dp), .slice (Q) (4) (dq)]), .is (.bool (false)), .is (.pointer (some ⟨g15, 0, none⟩)), .rk (32) (ownP S), .is (.slice (B) (m) (e')), .is (.agg #[.int .i64 (((k : Nat) : Int)), .slice ((some ⟨gP, 0, none⟩)) (64) (dp), .slice (Q) (4) (dq)]), .is (.bool (true)), .is (.bool (true)), .is (.bool (true)), .is (.bool (false)), .is (.bool (false)), .is (.bool (true)), .is (.bool (true)), .is (.bool (true)), .is (.bool (true))] rfl ⟨?_, ?_, ?_, ?_, ?_, ?_, ?_, ?_, ?_, ?_, ?_, ?_, ?_, ?_, ?_, ?_, ?_, ?_, ?_, trivial⟩ ?_
            · refine stepE rfl fun sdn sa sw sE sd sk => ?_
              have h15 : sa.eval (.tmp 15) = .pointer (some ⟨g15, 0, none⟩) := sk.old 15 rfl
              exact Runs.move rfl h15 ⟨Ext.refl _, rfl⟩
            · refine stepE rfl fun sdn sa sw sE sd sk => ?_
              have h77 : sa.eval (.tmp 77) = .pointer (some ⟨g15, 0, none⟩) := sk.fact 0 77 rfl (sd 0 rfl)
              refine Runs.call (f := 27) (vs := [.pointer (some ⟨g15, 0, none⟩)]) rfl rfl rfl (by simp only [List.map_toArray, List.map_cons, List.map_nil, h77] <;> rfl) (ent27 _ _) ((rpublic_any _ _ _ sw (o15.ext sE)).mono ?_); rintro e w' ⟨A', c', rfl, own, hx⟩; exact ⟨_, rfl, hx, A', c', rfl, own⟩
            · refine stepE rfl fun sdn sa sw sE sd sk => ?_
              have h3 : sa.eval (.tmp 3) = .slice (A3) (j) (d3) := sk.old 3 rfl
              exact Runs.move rfl h3 ⟨Ext.refl _, rfl⟩
            · refine stepE rfl fun sdn sa sw sE sd sk => ?_
              have h2 : sa.eval (.tmp 2) = .slice (B) (m) (e') := sk.old 2 rfl
              exact Runs.move rfl h2 ⟨Ext.refl _, rfl⟩
            · refine stepE rfl fun sdn sa sw sE sd sk => ?_
              have h16 : sa.eval (.tmp 16) = .pointer (some ⟨g16, 0, none⟩) := sk.old 16 rfl
              exact Runs.load rfl h16 (load_part (hB16.ext sE) 0 (vs := [.int .i64 (((k : Nat) : Int)), .slice ((some ⟨gP, 0, none⟩)) (64) (dp), .slice (Q) (4) (dq)]) rfl Try.underlying42 rfl (by kernel_rfl)) ⟨Ext.refl _, rfl⟩
            · refine stepE rfl fun sdn sa sw sE sd sk => ?_
              obtain ⟨A78, c78, h78, r78⟩ := sk.fact 1 78 rfl (sd 1 rfl)
              have h79 : sa.eval (.tmp 79) = .slice (A3) (j) (d3) := sk.fact 2 79 rfl (sd 2 rfl)
              have h80 : sa.eval (.tmp 80) = .slice (B) (m) (e') := sk.fact 3 80 rfl (sd 3 rfl)
              have h81 : sa.eval (.tmp 81) = .agg #[.int .i64 (((k : Nat) : Int)), .slice ((some ⟨gP, 0, none⟩)) (64) (dp), .slice (Q) (4) (dq)] := sk.fact 4 81 rfl (sd 4 rfl)
              refine Runs.call (f := 26) (vs := [.slice (A78) (32) (c78), .slice (A3) (j) (d3), .slice (B) (m) (e'), .agg #[.int .i64 (((k : Nat) : Int)), .slice ((some ⟨gP, 0, none⟩)) (64) (dp), .slice (Q) (4) (dq)]]) rfl rfl rfl (by simp only [List.map_toArray, List.map_cons, List.map_nil, h78, h79, h80, h81] <;> rfl) (ent26 _ _) ((forged_any _ _ _ _ _ _ _ _ _ _ _ _ _ _ _ _ _ _ _ _ _ sw r78 (rH.ext sE) (rM.ext sE) (by omega) (rP.ext sE) (rQ.ext sE)).mono ?_); rintro e w' ⟨rfl, hx⟩; exact ⟨_, rfl, hx, congrArg Value.bool (by rw [Hv.out, Hb.out]; rfl)⟩
            · refine stepE rfl fun sdn sa sw sE sd sk => ?_
              have h15 : sa.eval (.tmp 15) = .pointer (some ⟨g15, 0, none⟩) := sk.old 15 rfl
              exact Runs.move rfl h15 ⟨Ext.refl _, rfl⟩
            · refine stepE rfl fun sdn sa sw sE sd sk => ?_
              have h83 : sa.eval (.tmp 83) = .pointer (some ⟨g15, 0, none⟩) := sk.fact 6 83 rfl (sd 6 rfl)
              refine Runs.call (f := 27) (vs := [.pointer (some ⟨g15, 0, none⟩)]) rfl rfl rfl (by simp only [List.map_toArray, List.map_cons, List.map_nil, h83] <;> rfl) (ent27 _ _) ((rpublic_any _ _ _ sw (o15.ext sE)).mono ?_); rintro e w' ⟨A', c', rfl, own, hx⟩; exact ⟨_, rfl, hx, A', c', rfl, own⟩
            · refine stepE rfl fun sdn sa sw sE sd sk => ?_
              have h2 : sa.eval (.tmp 2) = .slice (B) (m) (e') := sk.old 2 rfl
              exact Runs.move rfl h2 ⟨Ext.refl _, rfl⟩
            · refine stepE rfl fun sdn sa sw sE sd sk => ?_
              have h16 : sa.eval (.tmp 16) = .pointer (some ⟨g16, 0, none⟩) := sk.old 16 rfl
              exact Runs.load rfl h16 (load_part (hB16.ext sE) 0 (vs := [.int .i64 (((k : Nat) : Int)), .slice ((some ⟨gP, 0, none⟩)) (64) (dp), .slice (Q) (4) (dq)]) rfl Try.underlying42 rfl (by kernel_rfl)) ⟨Ext.refl _, rfl⟩
            · refine stepE rfl fun sdn sa sw sE sd sk => ?_
              obtain ⟨A84, c84, h84, r84⟩ := sk.fact 7 84 rfl (sd 7 rfl)
              have h85 : sa.eval (.tmp 85) = .slice (B) (m) (e') := sk.fact 8 85 rfl (sd 8 rfl)
              have h86 : sa.eval (.tmp 86) = .agg #[.int .i64 (((k : Nat) : Int)), .slice ((some ⟨gP, 0, none⟩)) (64) (dp), .slice (Q) (4) (dq)] := sk.fact 9 86 rfl (sd 9 rfl)
              refine Runs.call (f := 28) (vs := [.slice (A84) (32) (c84), .slice (B) (m) (e'), .agg #[.int .i64 (((k : Nat) : Int)), .slice ((some ⟨gP, 0, none⟩)) (64) (dp), .slice (Q) (4) (dq)]]) rfl rfl rfl (by simp only [List.map_toArray, List.map_cons, List.map_nil, h84, h85, h86] <;> rfl) (ent28 _ _) ((rverify_len _ _ _ _ _ _ _ _ _ _ _ _ _ _ _ _ _ sw r84 (rM.ext sE) lenV (rP.ext sE) (rQ.ext sE)).mono ?_); rintro e w' ⟨rfl, hx⟩; exact ⟨_, rfl, hx, congrArg Value.bool (Hv.out)⟩
            · refine stepE rfl fun sdn sa sw sE sd sk => ?_
              have h87 : sa.eval (.tmp 87) = .bool (true) := sk.fact 10 87 rfl (sd 10 rfl)
              exact Runs.move rfl h87 ⟨Ext.refl _, rfl⟩
            · refine stepY (j := 11) (d := 88) (b := true) rfl rfl rfl (fun v w h => h) fun sdn sa sw sE sd sk => ?_
              have h18 : sa.eval (.tmp 18) = .bool (true) := sk.old 18 rfl
              exact Runs.move rfl h18 ⟨Ext.refl _, rfl⟩
            · refine stepY (j := 11) (d := 88) (b := true) rfl rfl rfl (fun v w h => h) fun sdn sa sw sE sd sk => ?_
              have h89 : sa.eval (.tmp 89) = .bool (true) := sk.fact 12 89 rfl (sd 12 rfl)
              exact Runs.un rfl h89 (by rfl) ⟨Ext.refl _, rfl⟩
            · refine stepE rfl fun sdn sa sw sE sd sk => ?_
              have h88 : sa.eval (.tmp 88) = .bool (true) := sk.fact 11 88 rfl (sd 11 rfl)
              have h90 : sa.eval (.tmp 90) = .bool (false) := sk.fact 13 90 rfl (sd 13 rfl)
              exact Runs.pick rfl h88 ⟨Ext.refl _, by first | exact h90 | simpa using h90⟩
            · refine stepE rfl fun sdn sa sw sE sd sk => ?_
              have h82 : sa.eval (.tmp 82) = .bool (false) := sk.fact 5 82 rfl (sd 5 rfl)
              have h91 : sa.eval (.tmp 91) = .bool (false) := sk.fact 14 91 rfl (sd 14 rfl)
              exact Runs.bin rfl h82 h91 (by rfl) (bin_eqb _ _) ⟨Ext.refl _, congrArg Value.bool (by decide)⟩
            · refine stepE rfl fun sdn sa sw sE sd sk => ?_
              have h92 : sa.eval (.tmp 92) = .bool (true) := sk.fact 15 92 rfl (sd 15 rfl)
              exact Runs.move rfl h92 ⟨Ext.refl _, rfl⟩
            · refine stepY (j := 16) (d := 93) (b := true) rfl rfl rfl (fun v w h => h) fun sdn sa sw sE sd sk => ?_
              refine Runs.call (f := 15) (vs := []) rfl rfl rfl (by simp only [List.map_toArray, List.map_cons, List.map_nil] <;> rfl) (ent15 _ _) ((known26_any sw).mono ?_); rintro e w' ⟨rfl, hx⟩; exact ⟨_, rfl, hx, rfl⟩
            · refine stepE rfl fun sdn sa sw sE sd sk => ?_
              have h93 : sa.eval (.tmp 93) = .bool (true) := sk.fact 16 93 rfl (sd 16 rfl)
              have h94 : sa.eval (.tmp 94) = .bool (true) := sk.fact 17 94 rfl (sd 17 rfl)
              exact Runs.pick rfl h93 ⟨Ext.refl _, by first | exact h94 | simpa using h94⟩
            intro vals W15 hE15 hv15
            have e0 : vals 0 = .pointer (some ⟨g15, 0, none⟩) := hv15 0 (by omega) 77 rfl
            obtain ⟨A78, c78, e1, r78⟩ := hv15 1 (by omega) 78 rfl
            have e2 : vals 2 = .slice (A3) (j) (d3) := hv15 2 (by omega) 79 rfl
            have e3 : vals 3 = .slice (B) (m) (e') := hv15 3 (by omega) 80 rfl
            have e4 : vals 4 = .agg #[.int .i64 (((k : Nat) : Int)), .slice ((some ⟨gP, 0, none⟩)) (64) (dp), .slice (Q) (4) (dq)] := hv15 4 (by omega) 81 rfl
            have e5 : vals 5 = .bool (false) := hv15 5 (by omega) 82 rfl
            have e6 : vals 6 = .pointer (some ⟨g15, 0, none⟩) := hv15 6 (by omega) 83 rfl
            obtain ⟨A84, c84, e7, r84⟩ := hv15 7 (by omega) 84 rfl
            have e8 : vals 8 = .slice (B) (m) (e') := hv15 8 (by omega) 85 rfl
            have e9 : vals 9 = .agg #[.int .i64 (((k : Nat) : Int)), .slice ((some ⟨gP, 0, none⟩)) (64) (dp), .slice (Q) (4) (dq)] := hv15 9 (by omega) 86 rfl
            have e10 : vals 10 = .bool (true) := hv15 10 (by omega) 87 rfl
            have e11 : vals 11 = .bool (true) := hv15 11 (by omega) 88 rfl
            have e12 : vals 12 = .bool (true) := hv15 12 (by omega) 89 rfl
            have e13 : vals 13 = .bool (false) := hv15 13 (by omega) 90 rfl
            have e14 : vals 14 = .bool (false) := hv15 14 (by omega) 91 rfl
            have e15 : vals 15 = .bool (true) := hv15 15 (by omega) 92 rfl
            have e16 : vals 16 = .bool (true) := hv15 16 (by omega) 93 rfl
            have e17 : vals 17 = .bool (true) := hv15 17 (by omega) 94 rfl
            have e18 : vals 18 = .bool (true) := hv15 18 (by omega) 95 rfl
            simp only [putAll, Act.put, List.take_succ_cons, List.take_zero, List.drop_succ_cons, List.drop_zero, List.drop_nil, List.take_nil, Nat.reduceAdd, List.setIfInBounds_toArray, List.set_cons_succ, List.set_cons_zero, e0, e1, e2, e3, e4, e5, e6, e7, e8, e9, e10, e11, e12, e13, e14, e15, e16, e17, e18]
            clear hv15 e0 e1 e2 e3 e4 e5 e6 e7 e8 e9 e10 e11 e12 e13 e14 e15 e16 e17 e18
            go_wp2_with fail
            go_ret
            exact ⟨rfl, hEw.trans hE15⟩
          | false =>
            have Hv := Lib.hid hv
            clear hv
            refine par_ext (n := 19) (by kernel_rfl) [.is (.pointer (some ⟨g15, 0, none⟩)), .rk (32) (ownP S), .is (.slice (A3) (j) (d3)), .is (.slice (B) (m) (e')), .is (.agg #[.int .i64 (((k : Nat) : Int)), .slice ((some ⟨gP, 0, none⟩)) (64) (dp), .slice (Q) (4) (dq)]), .is (.bool (false)), .is (.pointer (some ⟨g15, 0, none⟩)), .rk (32) (ownP S), .is (.slice (B) (m) (e')), .is (.agg #[.int .i64 (((k : Nat) : Int)), .slice ((some ⟨gP, 0, none⟩)) (64) (dp), .slice (Q) (4) (dq)]), .is (.bool (false)), .is (.bool (false)), .is undef, .is undef, .is (.bool (false)), .is (.bool (true)), .is (.bool (true)), .is (.bool (true)), .is (.bool (true))] rfl ⟨?_, ?_, ?_, ?_, ?_, ?_, ?_, ?_, ?_, ?_, ?_, ?_, ?_, ?_, ?_, ?_, ?_, ?_, ?_, trivial⟩ ?_
            · refine stepE rfl fun sdn sa sw sE sd sk => ?_
              have h15 : sa.eval (.tmp 15) = .pointer (some ⟨g15, 0, none⟩) := sk.old 15 rfl
              exact Runs.move rfl h15 ⟨Ext.refl _, rfl⟩
            · refine stepE rfl fun sdn sa sw sE sd sk => ?_
              have h77 : sa.eval (.tmp 77) = .pointer (some ⟨g15, 0, none⟩) := sk.fact 0 77 rfl (sd 0 rfl)
              refine Runs.call (f := 27) (vs := [.pointer (some ⟨g15, 0, none⟩)]) rfl rfl rfl (by simp only [List.map_toArray, List.map_cons, List.map_nil, h77] <;> rfl) (ent27 _ _) ((rpublic_any _ _ _ sw (o15.ext sE)).mono ?_); rintro e w' ⟨A', c', rfl, own, hx⟩; exact ⟨_, rfl, hx, A', c', rfl, own⟩
            · refine stepE rfl fun sdn sa sw sE sd sk => ?_
              have h3 : sa.eval (.tmp 3) = .slice (A3) (j) (d3) := sk.old 3 rfl
              exact Runs.move rfl h3 ⟨Ext.refl _, rfl⟩
            · refine stepE rfl fun sdn sa sw sE sd sk => ?_
              have h2 : sa.eval (.tmp 2) = .slice (B) (m) (e') := sk.old 2 rfl
              exact Runs.move rfl h2 ⟨Ext.refl _, rfl⟩
            · refine stepE rfl fun sdn sa sw sE sd sk => ?_
              have h16 : sa.eval (.tmp 16) = .pointer (some ⟨g16, 0, none⟩) := sk.old 16 rfl
              exact Runs.load rfl h16 (load_part (hB16.ext sE) 0 (vs := [.int .i64 (((k : Nat) : Int)), .slice ((some ⟨gP, 0, none⟩)) (64) (dp), .slice (Q) (4) (dq)]) rfl Try.underlying42 rfl (by kernel_rfl)) ⟨Ext.refl _, rfl⟩
            · refine stepE rfl fun sdn sa sw sE sd sk => ?_
              obtain ⟨A78, c78, h78, r78⟩ := sk.fact 1 78 rfl (sd 1 rfl)
              have h79 : sa.eval (.tmp 79) = .slice (A3) (j) (d3) := sk.fact 2 79 rfl (sd 2 rfl)
              have h80 : sa.eval (.tmp 80) = .slice (B) (m) (e') := sk.fact 3 80 rfl (sd 3 rfl)
              have h81 : sa.eval (.tmp 81) = .agg #[.int .i64 (((k : Nat) : Int)), .slice ((some ⟨gP, 0, none⟩)) (64) (dp), .slice (Q) (4) (dq)] := sk.fact 4 81 rfl (sd 4 rfl)
              refine Runs.call (f := 26) (vs := [.slice (A78) (32) (c78), .slice (A3) (j) (d3), .slice (B) (m) (e'), .agg #[.int .i64 (((k : Nat) : Int)), .slice ((some ⟨gP, 0, none⟩)) (64) (dp), .slice (Q) (4) (dq)]]) rfl rfl rfl (by simp only [List.map_toArray, List.map_cons, List.map_nil, h78, h79, h80, h81] <;> rfl) (ent26 _ _) ((forged_any _ _ _ _ _ _ _ _ _ _ _ _ _ _ _ _ _ _ _ _ _ sw r78 (rH.ext sE) (rM.ext sE) (by omega) (rP.ext sE) (rQ.ext sE)).mono ?_); rintro e w' ⟨rfl, hx⟩; exact ⟨_, rfl, hx, congrArg Value.bool (by rw [Hv.out, Hb.out]; rfl)⟩
            · refine stepE rfl fun sdn sa sw sE sd sk => ?_
              have h15 : sa.eval (.tmp 15) = .pointer (some ⟨g15, 0, none⟩) := sk.old 15 rfl
              exact Runs.move rfl h15 ⟨Ext.refl _, rfl⟩
            · refine stepE rfl fun sdn sa sw sE sd sk => ?_
              have h83 : sa.eval (.tmp 83) = .pointer (some ⟨g15, 0, none⟩) := sk.fact 6 83 rfl (sd 6 rfl)
              refine Runs.call (f := 27) (vs := [.pointer (some ⟨g15, 0, none⟩)]) rfl rfl rfl (by simp only [List.map_toArray, List.map_cons, List.map_nil, h83] <;> rfl) (ent27 _ _) ((rpublic_any _ _ _ sw (o15.ext sE)).mono ?_); rintro e w' ⟨A', c', rfl, own, hx⟩; exact ⟨_, rfl, hx, A', c', rfl, own⟩
            · refine stepE rfl fun sdn sa sw sE sd sk => ?_
              have h2 : sa.eval (.tmp 2) = .slice (B) (m) (e') := sk.old 2 rfl
              exact Runs.move rfl h2 ⟨Ext.refl _, rfl⟩
            · refine stepE rfl fun sdn sa sw sE sd sk => ?_
              have h16 : sa.eval (.tmp 16) = .pointer (some ⟨g16, 0, none⟩) := sk.old 16 rfl
              exact Runs.load rfl h16 (load_part (hB16.ext sE) 0 (vs := [.int .i64 (((k : Nat) : Int)), .slice ((some ⟨gP, 0, none⟩)) (64) (dp), .slice (Q) (4) (dq)]) rfl Try.underlying42 rfl (by kernel_rfl)) ⟨Ext.refl _, rfl⟩
            · refine stepE rfl fun sdn sa sw sE sd sk => ?_
              obtain ⟨A84, c84, h84, r84⟩ := sk.fact 7 84 rfl (sd 7 rfl)
              have h85 : sa.eval (.tmp 85) = .slice (B) (m) (e') := sk.fact 8 85 rfl (sd 8 rfl)
              have h86 : sa.eval (.tmp 86) = .agg #[.int .i64 (((k : Nat) : Int)), .slice ((some ⟨gP, 0, none⟩)) (64) (dp), .slice (Q) (4) (dq)] := sk.fact 9 86 rfl (sd 9 rfl)
              refine Runs.call (f := 28) (vs := [.slice (A84) (32) (c84), .slice (B) (m) (e'), .agg #[.int .i64 (((k : Nat) : Int)), .slice ((some ⟨gP, 0, none⟩)) (64) (dp), .slice (Q) (4) (dq)]]) rfl rfl rfl (by simp only [List.map_toArray, List.map_cons, List.map_nil, h84, h85, h86] <;> rfl) (ent28 _ _) ((rverify_len _ _ _ _ _ _ _ _ _ _ _ _ _ _ _ _ _ sw r84 (rM.ext sE) lenV (rP.ext sE) (rQ.ext sE)).mono ?_); rintro e w' ⟨rfl, hx⟩; exact ⟨_, rfl, hx, congrArg Value.bool (Hv.out)⟩
            · refine stepE rfl fun sdn sa sw sE sd sk => ?_
              have h87 : sa.eval (.tmp 87) = .bool (false) := sk.fact 10 87 rfl (sd 10 rfl)
              exact Runs.move rfl h87 ⟨Ext.refl _, rfl⟩
            · exact stepN (j := 11) (d := 88) (b := false) rfl rfl rfl (fun v w h => h) fun w => rfl
            · exact stepN (j := 11) (d := 88) (b := false) rfl rfl rfl (fun v w h => h) fun w => rfl
            · refine stepE rfl fun sdn sa sw sE sd sk => ?_
              have h88 : sa.eval (.tmp 88) = .bool (false) := sk.fact 11 88 rfl (sd 11 rfl)
              exact Runs.pick rfl h88 ⟨Ext.refl _, rfl⟩
            · refine stepE rfl fun sdn sa sw sE sd sk => ?_
              have h82 : sa.eval (.tmp 82) = .bool (false) := sk.fact 5 82 rfl (sd 5 rfl)
              have h91 : sa.eval (.tmp 91) = .bool (false) := sk.fact 14 91 rfl (sd 14 rfl)
              exact Runs.bin rfl h82 h91 (by rfl) (bin_eqb _ _) ⟨Ext.refl _, congrArg Value.bool (by decide)⟩
            · refine stepE rfl fun sdn sa sw sE sd sk => ?_
              have h92 : sa.eval (.tmp 92) = .bool (true) := sk.fact 15 92 rfl (sd 15 rfl)
              exact Runs.move rfl h92 ⟨Ext.refl _, rfl⟩
            · refine stepY (j := 16) (d := 93) (b := true) rfl rfl rfl (fun v w h => h) fun sdn sa sw sE sd sk => ?_
              refine Runs.call (f := 15) (vs := []) rfl rfl rfl (by simp only [List.map_toArray, List.map_cons, List.map_nil] <;> rfl) (ent15 _ _) ((known26_any sw).mono ?_); rintro e w' ⟨rfl, hx⟩; exact ⟨_, rfl, hx, rfl⟩
            · refine stepE rfl fun sdn sa sw sE sd sk => ?_
              have h93 : sa.eval (.tmp 93) = .bool (true) := sk.fact 16 93 rfl (sd 16 rfl)
              have h94 : sa.eval (.tmp 94) = .bool (true) := sk.fact 17 94 rfl (sd 17 rfl)
              exact Runs.pick rfl h93 ⟨Ext.refl _, by first | exact h94 | simpa using h94⟩
            intro vals W15 hE15 hv15
            have e0 : vals 0 = .pointer (some ⟨g15, 0, none⟩) := hv15 0 (by omega) 77 rfl
            obtain ⟨A78, c78, e1, r78⟩ := hv15 1 (by omega) 78 rfl
            have e2 : vals 2 = .slice (A3) (j) (d3) := hv15 2 (by omega) 79 rfl
            have e3 : vals 3 = .slice (B) (m) (e') := hv15 3 (by omega) 80 rfl
            have e4 : vals 4 = .agg #[.int .i64 (((k : Nat) : Int)), .slice ((some ⟨gP, 0, none⟩)) (64) (dp), .slice (Q) (4) (dq)] := hv15 4 (by omega) 81 rfl
            have e5 : vals 5 = .bool (false) := hv15 5 (by omega) 82 rfl
            have e6 : vals 6 = .pointer (some ⟨g15, 0, none⟩) := hv15 6 (by omega) 83 rfl
            obtain ⟨A84, c84, e7, r84⟩ := hv15 7 (by omega) 84 rfl
            have e8 : vals 8 = .slice (B) (m) (e') := hv15 8 (by omega) 85 rfl
            have e9 : vals 9 = .agg #[.int .i64 (((k : Nat) : Int)), .slice ((some ⟨gP, 0, none⟩)) (64) (dp), .slice (Q) (4) (dq)] := hv15 9 (by omega) 86 rfl
            have e10 : vals 10 = .bool (false) := hv15 10 (by omega) 87 rfl
            have e11 : vals 11 = .bool (false) := hv15 11 (by omega) 88 rfl
            have e14 : vals 14 = .bool (false) := hv15 14 (by omega) 91 rfl
            have e15 : vals 15 = .bool (true) := hv15 15 (by omega) 92 rfl
            have e16 : vals 16 = .bool (true) := hv15 16 (by omega) 93 rfl
            have e17 : vals 17 = .bool (true) := hv15 17 (by omega) 94 rfl
            have e18 : vals 18 = .bool (true) := hv15 18 (by omega) 95 rfl
            simp only [putAll, Act.put, List.take_succ_cons, List.take_zero, List.drop_succ_cons, List.drop_zero, List.drop_nil, List.take_nil, Nat.reduceAdd, List.setIfInBounds_toArray, List.set_cons_succ, List.set_cons_zero, e0, e1, e2, e3, e4, e5, e6, e7, e8, e9, e10, e11, e14, e15, e16, e17, e18]
            clear hv15 e0 e1 e2 e3 e4 e5 e6 e7 e8 e9 e10 e11 e14 e15 e16 e17 e18
            go_wp2_with fail
            go_ret
            exact ⟨rfl, hEw.trans hE15⟩
        | false =>
          have Hb := Lib.hid hb
          clear hb
          cases hv : verB (ownP S) M ((k : Nat) : Int) PT QS with
          | true =>
            have Hv := Lib.hid hv
            clear hv
            refine par_ext (n := 19) (by kernel_rfl) [.is (.pointer (some ⟨g15, 0, none⟩)), .rk (32) (ownP S), .is (.slice (A3) (j) (d3)), .is (.slice (B) (m) (e')), .is (.agg #[.int .i64 (((k : Nat) : Int)), .slice ((some ⟨gP, 0, none⟩)) (64) (dp), .slice (Q) (4) (dq)]), .is (.bool (true)), .is (.pointer (some ⟨g15, 0, none⟩)), .rk (32) (ownP S), .is (.slice (B) (m) (e')), .is (.agg #[.int .i64 (((k : Nat) : Int)), .slice ((some ⟨gP, 0, none⟩)) (64) (dp), .slice (Q) (4) (dq)]), .is (.bool (true)), .is (.bool (true)), .is (.bool (false)), .is (.bool (true)), .is (.bool (true)), .is (.bool (true)), .is (.bool (true)), .is (.bool (true)), .is (.bool (true))] rfl ⟨?_, ?_, ?_, ?_, ?_, ?_, ?_, ?_, ?_, ?_, ?_, ?_, ?_, ?_, ?_, ?_, ?_, ?_, ?_, trivial⟩ ?_
            · refine stepE rfl fun sdn sa sw sE sd sk => ?_
              have h15 : sa.eval (.tmp 15) = .pointer (some ⟨g15, 0, none⟩) := sk.old 15 rfl
              exact Runs.move rfl h15 ⟨Ext.refl _, rfl⟩
            · refine stepE rfl fun sdn sa sw sE sd sk => ?_
              have h77 : sa.eval (.tmp 77) = .pointer (some ⟨g15, 0, none⟩) := sk.fact 0 77 rfl (sd 0 rfl)
              refine Runs.call (f := 27) (vs := [.pointer (some ⟨g15, 0, none⟩)]) rfl rfl rfl (by simp only [List.map_toArray, List.map_cons, List.map_nil, h77] <;> rfl) (ent27 _ _) ((rpublic_any _ _ _ sw (o15.ext sE)).mono ?_); rintro e w' ⟨A', c', rfl, own, hx⟩; exact ⟨_, rfl, hx, A', c', rfl, own⟩
            · refine stepE rfl fun sdn sa sw sE sd sk => ?_
              have h3 : sa.eval (.tmp 3) = .slice (A3) (j) (d3) := sk.old 3 rfl
              exact Runs.move rfl h3 ⟨Ext.refl _, rfl⟩
            · refine stepE rfl fun sdn sa sw sE sd sk => ?_
              have h2 : sa.eval (.tmp 2) = .slice (B) (m) (e') := sk.old 2 rfl
              exact Runs.move rfl h2 ⟨Ext.refl _, rfl⟩
            · refine stepE rfl fun sdn sa sw sE sd sk => ?_
              have h16 : sa.eval (.tmp 16) = .pointer (some ⟨g16, 0, none⟩) := sk.old 16 rfl
              exact Runs.load rfl h16 (load_part (hB16.ext sE) 0 (vs := [.int .i64 (((k : Nat) : Int)), .slice ((some ⟨gP, 0, none⟩)) (64) (dp), .slice (Q) (4) (dq)]) rfl Try.underlying42 rfl (by kernel_rfl)) ⟨Ext.refl _, rfl⟩
            · refine stepE rfl fun sdn sa sw sE sd sk => ?_
              obtain ⟨A78, c78, h78, r78⟩ := sk.fact 1 78 rfl (sd 1 rfl)
              have h79 : sa.eval (.tmp 79) = .slice (A3) (j) (d3) := sk.fact 2 79 rfl (sd 2 rfl)
              have h80 : sa.eval (.tmp 80) = .slice (B) (m) (e') := sk.fact 3 80 rfl (sd 3 rfl)
              have h81 : sa.eval (.tmp 81) = .agg #[.int .i64 (((k : Nat) : Int)), .slice ((some ⟨gP, 0, none⟩)) (64) (dp), .slice (Q) (4) (dq)] := sk.fact 4 81 rfl (sd 4 rfl)
              refine Runs.call (f := 26) (vs := [.slice (A78) (32) (c78), .slice (A3) (j) (d3), .slice (B) (m) (e'), .agg #[.int .i64 (((k : Nat) : Int)), .slice ((some ⟨gP, 0, none⟩)) (64) (dp), .slice (Q) (4) (dq)]]) rfl rfl rfl (by simp only [List.map_toArray, List.map_cons, List.map_nil, h78, h79, h80, h81] <;> rfl) (ent26 _ _) ((forged_any _ _ _ _ _ _ _ _ _ _ _ _ _ _ _ _ _ _ _ _ _ sw r78 (rH.ext sE) (rM.ext sE) (by omega) (rP.ext sE) (rQ.ext sE)).mono ?_); rintro e w' ⟨rfl, hx⟩; exact ⟨_, rfl, hx, congrArg Value.bool (by rw [Hv.out, Hb.out]; rfl)⟩
            · refine stepE rfl fun sdn sa sw sE sd sk => ?_
              have h15 : sa.eval (.tmp 15) = .pointer (some ⟨g15, 0, none⟩) := sk.old 15 rfl
              exact Runs.move rfl h15 ⟨Ext.refl _, rfl⟩
            · refine stepE rfl fun sdn sa sw sE sd sk => ?_
              have h83 : sa.eval (.tmp 83) = .pointer (some ⟨g15, 0, none⟩) := sk.fact 6 83 rfl (sd 6 rfl)
              refine Runs.call (f := 27) (vs := [.pointer (some ⟨g15, 0, none⟩)]) rfl rfl rfl (by simp only [List.map_toArray, List.map_cons, List.map_nil, h83] <;> rfl) (ent27 _ _) ((rpublic_any _ _ _ sw (o15.ext sE)).mono ?_); rintro e w' ⟨A', c', rfl, own, hx⟩; exact ⟨_, rfl, hx, A', c', rfl, own⟩
            · refine stepE rfl fun sdn sa sw sE sd sk => ?_
              have h2 : sa.eval (.tmp 2) = .slice (B) (m) (e') := sk.old 2 rfl
              exact Runs.move rfl h2 ⟨Ext.refl _, rfl⟩
            · refine stepE rfl fun sdn sa sw sE sd sk => ?_
              have h16 : sa.eval (.tmp 16) = .pointer (some ⟨g16, 0, none⟩) := sk.old 16 rfl
              exact Runs.load rfl h16 (load_part (hB16.ext sE) 0 (vs := [.int .i64 (((k : Nat) : Int)), .slice ((some ⟨gP, 0, none⟩)) (64) (dp), .slice (Q) (4) (dq)]) rfl Try.underlying42 rfl (by kernel_rfl)) ⟨Ext.refl _, rfl⟩
            · refine stepE rfl fun sdn sa sw sE sd sk => ?_
              obtain ⟨A84, c84, h84, r84⟩ := sk.fact 7 84 rfl (sd 7 rfl)
              have h85 : sa.eval (.tmp 85) = .slice (B) (m) (e') := sk.fact 8 85 rfl (sd 8 rfl)
              have h86 : sa.eval (.tmp 86) = .agg #[.int .i64 (((k : Nat) : Int)), .slice ((some ⟨gP, 0, none⟩)) (64) (dp), .slice (Q) (4) (dq)] := sk.fact 9 86 rfl (sd 9 rfl)
              refine Runs.call (f := 28) (vs := [.slice (A84) (32) (c84), .slice (B) (m) (e'), .agg #[.int .i64 (((k : Nat) : Int)), .slice ((some ⟨gP, 0, none⟩)) (64) (dp), .slice (Q) (4) (dq)]]) rfl rfl rfl (by simp only [List.map_toArray, List.map_cons, List.map_nil, h84, h85, h86] <;> rfl) (ent28 _ _) ((rverify_len _ _ _ _ _ _ _ _ _ _ _ _ _ _ _ _ _ sw r84 (rM.ext sE) lenV (rP.ext sE) (rQ.ext sE)).mono ?_); rintro e w' ⟨rfl, hx⟩; exact ⟨_, rfl, hx, congrArg Value.bool (Hv.out)⟩
            · refine stepE rfl fun sdn sa sw sE sd sk => ?_
              have h87 : sa.eval (.tmp 87) = .bool (true) := sk.fact 10 87 rfl (sd 10 rfl)
              exact Runs.move rfl h87 ⟨Ext.refl _, rfl⟩
            · refine stepY (j := 11) (d := 88) (b := true) rfl rfl rfl (fun v w h => h) fun sdn sa sw sE sd sk => ?_
              have h18 : sa.eval (.tmp 18) = .bool (false) := sk.old 18 rfl
              exact Runs.move rfl h18 ⟨Ext.refl _, rfl⟩
            · refine stepY (j := 11) (d := 88) (b := true) rfl rfl rfl (fun v w h => h) fun sdn sa sw sE sd sk => ?_
              have h89 : sa.eval (.tmp 89) = .bool (false) := sk.fact 12 89 rfl (sd 12 rfl)
              exact Runs.un rfl h89 (by rfl) ⟨Ext.refl _, rfl⟩
            · refine stepE rfl fun sdn sa sw sE sd sk => ?_
              have h88 : sa.eval (.tmp 88) = .bool (true) := sk.fact 11 88 rfl (sd 11 rfl)
              have h90 : sa.eval (.tmp 90) = .bool (true) := sk.fact 13 90 rfl (sd 13 rfl)
              exact Runs.pick rfl h88 ⟨Ext.refl _, by first | exact h90 | simpa using h90⟩
            · refine stepE rfl fun sdn sa sw sE sd sk => ?_
              have h82 : sa.eval (.tmp 82) = .bool (true) := sk.fact 5 82 rfl (sd 5 rfl)
              have h91 : sa.eval (.tmp 91) = .bool (true) := sk.fact 14 91 rfl (sd 14 rfl)
              exact Runs.bin rfl h82 h91 (by rfl) (bin_eqb _ _) ⟨Ext.refl _, congrArg Value.bool (by decide)⟩
            · refine stepE rfl fun sdn sa sw sE sd sk => ?_
              have h92 : sa.eval (.tmp 92) = .bool (true) := sk.fact 15 92 rfl (sd 15 rfl)
              exact Runs.move rfl h92 ⟨Ext.refl _, rfl⟩
            · refine stepY (j := 16) (d := 93) (b := true) rfl rfl rfl (fun v w h => h) fun sdn sa sw sE sd sk => ?_
              refine Runs.call (f := 15) (vs := []) rfl rfl rfl (by simp only [List.map_toArray, List.map_cons, List.map_nil] <;> rfl) (ent15 _ _) ((known26_any sw).mono ?_); rintro e w' ⟨rfl, hx⟩; exact ⟨_, rfl, hx, rfl⟩
            · refine stepE rfl fun sdn sa sw sE sd sk => ?_
              have h93 : sa.eval (.tmp 93) = .bool (true) := sk.fact 16 93 rfl (sd 16 rfl)
              have h94 : sa.eval (.tmp 94) = .bool (true) := sk.fact 17 94 rfl (sd 17 rfl)
              exact Runs.pick rfl h93 ⟨Ext.refl _, by first | exact h94 | simpa using h94⟩
            intro vals W15 hE15 hv15
            have e0 : vals 0 = .pointer (some ⟨g15, 0, none⟩) := hv15 0 (by omega) 77 rfl
            obtain ⟨A78, c78, e1, r78⟩ := hv15 1 (by omega) 78 rfl
            have e2 : vals 2 = .slice (A3) (j) (d3) := hv15 2 (by omega) 79 rfl
            have e3 : vals 3 = .slice (B) (m) (e') := hv15 3 (by omega) 80 rfl
            have e4 : vals 4 = .agg #[.int .i64 (((k : Nat) : Int)), .slice ((some ⟨gP, 0, none⟩)) (64) (dp), .slice (Q) (4) (dq)] := hv15 4 (by omega) 81 rfl
            have e5 : vals 5 = .bool (true) := hv15 5 (by omega) 82 rfl
            have e6 : vals 6 = .pointer (some ⟨g15, 0, none⟩) := hv15 6 (by omega) 83 rfl
            obtain ⟨A84, c84, e7, r84⟩ := hv15 7 (by omega) 84 rfl
            have e8 : vals 8 = .slice (B) (m) (e') := hv15 8 (by omega) 85 rfl
            have e9 : vals 9 = .agg #[.int .i64 (((k : Nat) : Int)), .slice ((some ⟨gP, 0, none⟩)) (64) (dp), .slice (Q) (4) (dq)] := hv15 9 (by omega) 86 rfl
            have e10 : vals 10 = .bool (true) := hv15 10 (by omega) 87 rfl
            have e11 : vals 11 = .bool (true) := hv15 11 (by omega) 88 rfl
            have e12 : vals 12 = .bool (false) := hv15 12 (by omega) 89 rfl
            have e13 : vals 13 = .bool (true) := hv15 13 (by omega) 90 rfl
            have e14 : vals 14 = .bool (true) := hv15 14 (by omega) 91 rfl
            have e15 : vals 15 = .bool (true) := hv15 15 (by omega) 92 rfl
            have e16 : vals 16 = .bool (true) := hv15 16 (by omega) 93 rfl
            have e17 : vals 17 = .bool (true) := hv15 17 (by omega) 94 rfl
            have e18 : vals 18 = .bool (true) := hv15 18 (by omega) 95 rfl
            simp only [putAll, Act.put, List.take_succ_cons, List.take_zero, List.drop_succ_cons, List.drop_zero, List.drop_nil, List.take_nil, Nat.reduceAdd, List.setIfInBounds_toArray, List.set_cons_succ, List.set_cons_zero, e0, e1, e2, e3, e4, e5, e6, e7, e8, e9, e10, e11, e12, e13, e14, e15, e16, e17, e18]
            clear hv15 e0 e1 e2 e3 e4 e5 e6 e7 e8 e9 e10 e11 e12 e13 e14 e15 e16 e17 e18
            go_wp2_with fail
            go_ret
            exact ⟨rfl, hEw.trans hE15⟩
          | false =>
            have Hv := Lib.hid hv
            clear hv
            refine par_ext (n := 19) (by kernel_rfl) [.is (.pointer (some ⟨g15, 0, none⟩)), .rk (32) (ownP S), .is (.slice (A3) (j) (d3)), .is (.slice (B) (m) (e')), .is (.agg #[.int .i64 (((k : Nat) : Int)), .slice ((some ⟨gP, 0, none⟩)) (64) (dp), .slice (Q) (4) (dq)]), .is (.bool (false)), .is (.pointer (some ⟨g15, 0, none⟩)), .rk (32) (ownP S), .is (.slice (B) (m) (e')), .is (.agg #[.int .i64 (((k : Nat) : Int)), .slice ((some ⟨gP, 0, none⟩)) (64) (dp), .slice (Q) (4) (dq)]), .is (.bool (false)), .is (.bool (false)), .is undef, .is undef, .is (.bool (false)), .is (.bool (true)), .is (.bool (true)), .is (.bool (true)), .is (.bool (true))] rfl ⟨?_, ?_, ?_, ?_, ?_, ?_, ?_, ?_, ?_, ?_, ?_, ?_, ?_, ?_, ?_, ?_, ?_, ?_, ?_, trivial⟩ ?_
            · refine stepE rfl fun sdn sa sw sE sd sk => ?_
              have h15 : sa.eval (.tmp 15) = .pointer (some ⟨g15, 0, none⟩) := sk.old 15 rfl
              exact Runs.move rfl h15 ⟨Ext.refl _, rfl⟩
            · refine stepE rfl fun sdn sa sw sE sd sk => ?_
              have h77 : sa.eval (.tmp 77) = .pointer (some ⟨g15, 0, none⟩) := sk.fact 0 77 rfl (sd 0 rfl)
              refine Runs.call (f := 27) (vs := [.pointer (some ⟨g15, 0, none⟩)]) rfl rfl rfl (by simp only [List.map_toArray, List.map_cons, List.map_nil, h77] <;> rfl) (ent27 _ _) ((rpublic_any _ _ _ sw (o15.ext sE)).mono ?_); rintro e w' ⟨A', c', rfl, own, hx⟩; exact ⟨_, rfl, hx, A', c', rfl, own⟩
            · refine stepE rfl fun sdn sa sw sE sd sk => ?_
              have h3 : sa.eval (.tmp 3) = .slice (A3) (j) (d3) := sk.old 3 rfl
              exact Runs.move rfl h3 ⟨Ext.refl _, rfl⟩
            · refine stepE rfl fun sdn sa sw sE sd sk => ?_
              have h2 : sa.eval (.tmp 2) = .slice (B) (m) (e') := sk.old 2 rfl
              exact Runs.move rfl h2 ⟨Ext.refl _, rfl⟩
            · refine stepE rfl fun sdn sa sw sE sd sk => ?_
              have h16 : sa.eval (.tmp 16) = .pointer (some ⟨g16, 0, none⟩) := sk.old 16 rfl
              exact Runs.load rfl h16 (load_part (hB16.ext sE) 0 (vs := [.int .i64 (((k : Nat) : Int)), .slice ((some ⟨gP, 0, none⟩)) (64) (dp), .slice (Q) (4) (dq)]) rfl Try.underlying42 rfl (by kernel_rfl)) ⟨Ext.refl _, rfl⟩
            · refine stepE rfl fun sdn sa sw sE sd sk => ?_
              obtain ⟨A78, c78, h78, r78⟩ := sk.fact 1 78 rfl (sd 1 rfl)
              have h79 : sa.eval (.tmp 79) = .slice (A3) (j) (d3) := sk.fact 2 79 rfl (sd 2 rfl)
              have h80 : sa.eval (.tmp 80) = .slice (B) (m) (e') := sk.fact 3 80 rfl (sd 3 rfl)
              have h81 : sa.eval (.tmp 81) = .agg #[.int .i64 (((k : Nat) : Int)), .slice ((some ⟨gP, 0, none⟩)) (64) (dp), .slice (Q) (4) (dq)] := sk.fact 4 81 rfl (sd 4 rfl)
              refine Runs.call (f := 26) (vs := [.slice (A78) (32) (c78), .slice (A3) (j) (d3), .slice (B) (m) (e'), .agg #[.int .i64 (((k : Nat) : Int)), .slice ((some ⟨gP, 0, none⟩)) (64) (dp), .slice (Q) (4) (dq)]]) rfl rfl rfl (by simp only [List.map_toArray, List.map_cons, List.map_nil, h78, h79, h80, h81] <;> rfl) (ent26 _ _) ((forged_any _ _ _ _ _ _ _ _ _ _ _ _ _ _ _ _ _ _ _ _ _ sw r78 (rH.ext sE) (rM.ext sE) (by omega) (rP.ext sE) (rQ.ext sE)).mono ?_); rintro e w' ⟨rfl, hx⟩; exact ⟨_, rfl, hx, congrArg Value.bool (by rw [Hv.out, Hb.out]; rfl)⟩
            · refine stepE rfl fun sdn sa sw sE sd sk => ?_
              have h15 : sa.eval (.tmp 15) = .pointer (some ⟨g15, 0, none⟩) := sk.old 15 rfl
              exact Runs.move rfl h15 ⟨Ext.refl _, rfl⟩
            · refine stepE rfl fun sdn sa sw sE sd sk => ?_
              have h83 : sa.eval (.tmp 83) = .pointer (some ⟨g15, 0, none⟩) := sk.fact 6 83 rfl (sd 6 rfl)
              refine Runs.call (f := 27) (vs := [.pointer (some ⟨g15, 0, none⟩)]) rfl rfl rfl (by simp only [List.map_toArray, List.map_cons, List.map_nil, h83] <;> rfl) (ent27 _ _) ((rpublic_any _ _ _ sw (o15.ext sE)).mono ?_); rintro e w' ⟨A', c', rfl, own, hx⟩; exact ⟨_, rfl, hx, A', c', rfl, own⟩
            · refine stepE rfl fun sdn sa sw sE sd sk => ?_
              have h2 : sa.eval (.tmp 2) = .slice (B) (m) (e') := sk.old 2 rfl
              exact Runs.move rfl h2 ⟨Ext.refl _, rfl⟩
            · refine stepE rfl fun sdn sa sw sE sd sk => ?_
              have h16 : sa.eval (.tmp 16) = .pointer (some ⟨g16, 0, none⟩) := sk.old 16 rfl
              exact Runs.load rfl h16 (load_part (hB16.ext sE) 0 (vs := [.int .i64 (((k : Nat) : Int)), .slice ((some ⟨gP, 0, none⟩)) (64) (dp), .slice (Q) (4) (dq)]) rfl Try.underlying42 rfl (by kernel_rfl)) ⟨Ext.refl _, rfl⟩
            · refine stepE rfl fun sdn sa sw sE sd sk => ?_
              obtain ⟨A84, c84, h84, r84⟩ := sk.fact 7 84 rfl (sd 7 rfl)
              have h85 : sa.eval (.tmp 85) = .slice (B) (m) (e') := sk.fact 8 85 rfl (sd 8 rfl)
              have h86 : sa.eval (.tmp 86) = .agg #[.int .i64 (((k : Nat) : Int)), .slice ((some ⟨gP, 0, none⟩)) (64) (dp), .slice (Q) (4) (dq)] := sk.fact 9 86 rfl (sd 9 rfl)
              refine Runs.call (f := 28) (vs := [.slice (A84) (32) (c84), .slice (B) (m) (e'), .agg #[.int .i64 (((k : Nat) : Int)), .slice ((some ⟨gP, 0, none⟩)) (64) (dp), .slice (Q) (4) (dq)]]) rfl rfl rfl (by simp only [List.map_toArray, List.map_cons, List.map_nil, h84, h85, h86] <;> rfl) (ent28 _ _) ((rverify_len _ _ _ _ _ _ _ _ _ _ _ _ _ _ _ _ _ sw r84 (rM.ext sE) lenV (rP.ext sE) (rQ.ext sE)).mono ?_); rintro e w' ⟨rfl, hx⟩; exact ⟨_, rfl, hx, congrArg Value.bool (Hv.out)⟩
            · refine stepE rfl fun sdn sa sw sE sd sk => ?_
              have h87 : sa.eval (.tmp 87) = .bool (false) := sk.fact 10 87 rfl (sd 10 rfl)
              exact Runs.move rfl h87 ⟨Ext.refl _, rfl⟩
            · exact stepN (j := 11) (d := 88) (b := false) rfl rfl rfl (fun v w h => h) fun w => rfl
            · exact stepN (j := 11) (d := 88) (b := false) rfl rfl rfl (fun v w h => h) fun w => rfl
            · refine stepE rfl fun sdn sa sw sE sd sk => ?_
              have h88 : sa.eval (.tmp 88) = .bool (false) := sk.fact 11 88 rfl (sd 11 rfl)
              exact Runs.pick rfl h88 ⟨Ext.refl _, rfl⟩
            · refine stepE rfl fun sdn sa sw sE sd sk => ?_
              have h82 : sa.eval (.tmp 82) = .bool (false) := sk.fact 5 82 rfl (sd 5 rfl)
              have h91 : sa.eval (.tmp 91) = .bool (false) := sk.fact 14 91 rfl (sd 14 rfl)
              exact Runs.bin rfl h82 h91 (by rfl) (bin_eqb _ _) ⟨Ext.refl _, congrArg Value.bool (by decide)⟩
            · refine stepE rfl fun sdn sa sw sE sd sk => ?_
              have h92 : sa.eval (.tmp 92) = .bool (true) := sk.fact 15 92 rfl (sd 15 rfl)
              exact Runs.move rfl h92 ⟨Ext.refl _, rfl⟩
            · refine stepY (j := 16) (d := 93) (b := true) rfl rfl rfl (fun v w h => h) fun sdn sa sw sE sd sk => ?_
              refine Runs.call (f := 15) (vs := []) rfl rfl rfl (by simp only [List.map_toArray, List.map_cons, List.map_nil] <;> rfl) (ent15 _ _) ((known26_any sw).mono ?_); rintro e w' ⟨rfl, hx⟩; exact ⟨_, rfl, hx, rfl⟩
            · refine stepE rfl fun sdn sa sw sE sd sk => ?_
              have h93 : sa.eval (.tmp 93) = .bool (true) := sk.fact 16 93 rfl (sd 16 rfl)
              have h94 : sa.eval (.tmp 94) = .bool (true) := sk.fact 17 94 rfl (sd 17 rfl)
              exact Runs.pick rfl h93 ⟨Ext.refl _, by first | exact h94 | simpa using h94⟩
            intro vals W15 hE15 hv15
            have e0 : vals 0 = .pointer (some ⟨g15, 0, none⟩) := hv15 0 (by omega) 77 rfl
            obtain ⟨A78, c78, e1, r78⟩ := hv15 1 (by omega) 78 rfl
            have e2 : vals 2 = .slice (A3) (j) (d3) := hv15 2 (by omega) 79 rfl
            have e3 : vals 3 = .slice (B) (m) (e') := hv15 3 (by omega) 80 rfl
            have e4 : vals 4 = .agg #[.int .i64 (((k : Nat) : Int)), .slice ((some ⟨gP, 0, none⟩)) (64) (dp), .slice (Q) (4) (dq)] := hv15 4 (by omega) 81 rfl
            have e5 : vals 5 = .bool (false) := hv15 5 (by omega) 82 rfl
            have e6 : vals 6 = .pointer (some ⟨g15, 0, none⟩) := hv15 6 (by omega) 83 rfl
            obtain ⟨A84, c84, e7, r84⟩ := hv15 7 (by omega) 84 rfl
            have e8 : vals 8 = .slice (B) (m) (e') := hv15 8 (by omega) 85 rfl
            have e9 : vals 9 = .agg #[.int .i64 (((k : Nat) : Int)), .slice ((some ⟨gP, 0, none⟩)) (64) (dp), .slice (Q) (4) (dq)] := hv15 9 (by omega) 86 rfl
            have e10 : vals 10 = .bool (false) := hv15 10 (by omega) 87 rfl
            have e11 : vals 11 = .bool (false) := hv15 11 (by omega) 88 rfl
            have e14 : vals 14 = .bool (false) := hv15 14 (by omega) 91 rfl
            have e15 : vals 15 = .bool (true) := hv15 15 (by omega) 92 rfl
            have e16 : vals 16 = .bool (true) := hv15 16 (by omega) 93 rfl
            have e17 : vals 17 = .bool (true) := hv15 17 (by omega) 94 rfl
            have e18 : vals 18 = .bool (true) := hv15 18 (by omega) 95 rfl
            simp only [putAll, Act.put, List.take_succ_cons, List.take_zero, List.drop_succ_cons, List.drop_zero, List.drop_nil, List.take_nil, Nat.reduceAdd, List.setIfInBounds_toArray, List.set_cons_succ, List.set_cons_zero, e0, e1, e2, e3, e4, e5, e6, e7, e8, e9, e10, e11, e14, e15, e16, e17, e18]
            clear hv15 e0 e1 e2 e3 e4 e5 e6 e7 e8 e9 e10 e11 e14 e15 e16 e17 e18
            go_wp2_with fail
            go_ret
            exact ⟨rfl, hEw.trans hE15⟩

  | false =>
    have hE25 := hE24
    have oH3 := oH
    obtain ⟨w5, rfl⟩ : ∃ w5, w5 = w4 := ⟨_, rfl⟩
    obtain ⟨nh, rfl⟩ : ∃ nh, nh = q := ⟨_, rfl⟩
    obtain ⟨A3, rfl⟩ : ∃ A3, A3 = A2 := ⟨_, rfl⟩
    obtain ⟨d3, rfl⟩ : ∃ d3, d3 = d2 := ⟨_, rfl⟩
    have hnh7 : nh ≤ 7 := by omega
    generalize LL = HL at *
    clear hla hq6 oH hE24
    go_upto_region 6 with (fail)
    have rH := oH3.rbb
    replace rM := rM.ext hE25
    replace o15 := o15.ext hE25
    have hEw := hE12.trans hE25
    clear oH3 hE25 hE12
    go_wp2_with fail
    refine (within_any k0 0 15 w5 hk0.1 hk0.2 (by omega) (by omega) (by omega)).mono ?_
    rintro e x1 ⟨rfl, rfl⟩
    rw [Hk.out]
    clear Hk
    go_wp2_with fail
    refine (rsign_l B g15 _ m e' k S M w5 o15 rM (by omega) hk16).mono ?_
    rintro e wS ⟨P, dp, Q, dq, rfl, oP, ⟨q1, hq1, hq2, oQ⟩, hE⟩
    have hrs := (root_sign M S (k : Int)).1
    have hvo := verB_own S M k hk16
    obtain ⟨PS, hPS⟩ : ∃ PS, PS = (List.range 64).map (partS (digestW M) S (k : Int)) := ⟨_, rfl⟩
    obtain ⟨QS, hQS⟩ : ∃ QS, QS = pathL S k := ⟨_, rfl⟩
    rw [← hPS] at oP hrs
    rw [← hQS] at oQ
    clear hPS hQS hvo
    obtain ⟨ad, rfl, _⟩ := oP.rbb.cells (by omega)
    obtain ⟨gP, rfl⟩ := oP.plain
    have hP1 := oP.lt (k := gP) rfl
    have hP2 := hq1 gP rfl
    have hlen := hrs.2 i hi64
    have hPl := hrs.1
    have hEn := Ext.new wS (.cells #[.int .i64 (k : Int), .slice (some ⟨gP, 0, none⟩) 64 dp, .slice Q 4 dq] 42)
    have hB16 := Blk.new wS 42 #[.int .i64 (k : Int), .slice (some ⟨gP, 0, none⟩) 64 dp, .slice Q 4 dq]
    replace hE := hE.trans hEn
    have hS1 : (wS.alloc (.cells #[.int .i64 (k : Int), .slice (some ⟨gP, 0, none⟩) 64 dp, .slice Q 4 dq] 42)).heap.size = wS.heap.size + 1 := World.size_alloc _ _
    replace oP := oP.ext hEn
    replace oQ := oQ.ext hEn
    have hQlt : ∀ x, blk Q = some x → q1 ≤ x ∧ x < wS.heap.size + 1 := fun x hx => by have h := oQ.lt hx; rw [hS1] at h; exact h
    clear hEn hrs hq1
    go_wp2_with fail
    generalize wS.alloc (.cells #[.int .i64 (k : Int), .slice (some ⟨gP, 0, none⟩) 64 dp, .slice Q 4 dq] 42) = w6 at *
    generalize wS.heap.size = g16 at *
    refine (within_any i0 0 63 w6 hi0.1 hi0.2 (by omega) (by omega) (by omega)).mono ?_
    rintro e x1 ⟨rfl, rfl⟩
    rw [Hi.out]
    clear Hi
    have rP := oP.rbb
    have rQ := oQ.obc.rbb
    obtain ⟨ad, had, hcs⟩ := rP.cells (by omega)
    injection had with had
    subst had
    obtain ⟨E, z, y, hcE, rE⟩ := hcs i hi64
    obtain rfl : z = 32 := rE.len.symm.trans hlen
    clear hcs
    go_upto_region 8 with (fail)
    refine par_ext (n := 10) (by kernel_rfl) [.is (.pointer (some ⟨g16, 1, none⟩)), .is (.slice ((some ⟨gP, 0, none⟩)) (64) (dp)), .is (.int .i64 (((i : Nat) : Int))), .em 0, .is (.pointer (some ⟨g16, 1, none⟩)), .is (.slice ((some ⟨gP, 0, none⟩)) (64) (dp)), .is (.int .i64 (((i : Nat) : Int))), .is (.pointer (some ((⟨gP, 0, none⟩ : Addr).add i))), .is (.slice (E) (32) (y)), .ob32 (w6.heap.size) (lb PS i)] rfl ⟨?_, ?_, ?_, ?_, ?_, ?_, ?_, ?_, ?_, ?_, trivial⟩ ?_
    · refine stepE rfl fun sdn sa sw sE sd sk => ?_
      have h16 : sa.eval (.tmp 16) = .pointer (some ⟨g16, 0, none⟩) := sk.old 16 rfl
      refine Runs.of_run (r := .pointer (some ⟨g16, 1, none⟩)) (w' := sw) ?_ ⟨Ext.refl _, rfl⟩
      unfold execOp
      simp only [h16]
      go_simp
    · refine stepE rfl fun sdn sa sw sE sd sk => ?_
      have h39 : sa.eval (.tmp 39) = .pointer (some ⟨g16, 1, none⟩) := sk.fact 0 39 rfl (sd 0 rfl)
      exact Runs.load rfl h39 (run_load1 Try.underlying23 rfl ((hB16.ext sE).cell (i := 1) rfl)) ⟨Ext.refl _, rfl⟩
    · refine stepE rfl fun sdn sa sw sE sd sk => ?_
      have h17 : sa.eval (.tmp 17) = .int .i64 (((i : Nat) : Int)) := sk.old 17 rfl
      exact Runs.move rfl h17 ⟨Ext.refl _, rfl⟩
    · refine stepE rfl fun sdn sa sw sE sd sk => ?_
      exact Runs.lit0 rfl (fun w1 e1 o1 => ⟨e1, _, rfl, o1.rb⟩)
    · refine stepE rfl fun sdn sa sw sE sd sk => ?_
      have h16 : sa.eval (.tmp 16) = .pointer (some ⟨g16, 0, none⟩) := sk.old 16 rfl
      refine Runs.of_run (r := .pointer (some ⟨g16, 1, none⟩)) (w' := sw) ?_ ⟨Ext.refl _, rfl⟩
      unfold execOp
      simp only [h16]
      go_simp
    · refine stepE rfl fun sdn sa sw sE sd sk => ?_
      have h43 : sa.eval (.tmp 43) = .pointer (some ⟨g16, 1, none⟩) := sk.fact 4 43 rfl (sd 4 rfl)
      exact Runs.load rfl h43 (run_load1 Try.underlying23 rfl ((hB16.ext sE).cell (i := 1) rfl)) ⟨Ext.refl _, rfl⟩
    · refine stepE rfl fun sdn sa sw sE sd sk => ?_
      have h17 : sa.eval (.tmp 17) = .int .i64 (((i : Nat) : Int)) := sk.old 17 rfl
      exact Runs.move rfl h17 ⟨Ext.refl _, rfl⟩
    · refine stepE rfl fun sdn sa sw sE sd sk => ?_
      have h44 : sa.eval (.tmp 44) = .slice ((some ⟨gP, 0, none⟩)) (64) (dp) := sk.fact 5 44 rfl (sd 5 rfl)
      have h45 : sa.eval (.tmp 45) = .int .i64 (((i : Nat) : Int)) := sk.fact 6 45 rfl (sd 6 rfl)
      exact Runs.idx rfl h44 h45 (run_idx_sl1 Try.underlying23 infZZ_eq infZZ_size i (by first | rfl | omega) (by omega)) ⟨Ext.refl _, rfl⟩
    · refine stepE rfl fun sdn sa sw sE sd sk => ?_
      have h46 : sa.eval (.tmp 46) = .pointer (some ((⟨gP, 0, none⟩ : Addr).add i)) := sk.fact 7 46 rfl (sd 7 rfl)
      exact Runs.load rfl h46 (run_load1 Try.underlying22 rfl (sE.cell hcE)) ⟨Ext.refl _, rfl⟩
    · refine stepE rfl fun sdn sa sw sE sd sk => ?_
      obtain ⟨g42, h42, r42⟩ := sk.fact 3 42 rfl (sd 3 rfl)
      have h47 : sa.eval (.tmp 47) = .slice (E) (32) (y) := sk.fact 8 47 rfl (sd 8 rfl)
      refine Runs.appFull rfl h42 h47 r42 (rE.ext sE) (by omega) (by omega) (fun A' c' w1 o1 e1 => ?_); obtain ⟨ad', rfl, _⟩ := o1.rb.cells (by omega); obtain ⟨g', rfl⟩ := o1.plain; exact ⟨e1, g', c', rfl, (show OB w1 sw.heap.size _ 32 c' (lb PS i) by simpa using o1).base sE.size⟩
    intro vals W8 hE8 hv8
    have e0 : vals 0 = .pointer (some ⟨g16, 1, none⟩) := hv8 0 (by omega) 39 rfl
    have e1 : vals 1 = .slice ((some ⟨gP, 0, none⟩)) (64) (dp) := hv8 1 (by omega) 40 rfl
    have e2 : vals 2 = .int .i64 (((i : Nat) : Int)) := hv8 2 (by omega) 41 rfl
    obtain ⟨g42, e3, r42⟩ := hv8 3 (by omega) 42 rfl
    have e4 : vals 4 = .pointer (some ⟨g16, 1, none⟩) := hv8 4 (by omega) 43 rfl
    have e5 : vals 5 = .slice ((some ⟨gP, 0, none⟩)) (64) (dp) := hv8 5 (by omega) 44 rfl
    have e6 : vals 6 = .int .i64 (((i : Nat) : Int)) := hv8 6 (by omega) 45 rfl
    have e7 : vals 7 = .pointer (some ((⟨gP, 0, none⟩ : Addr).add i)) := hv8 7 (by omega) 46 rfl
    have e8 : vals 8 = .slice (E) (32) (y) := hv8 8 (by omega) 47 rfl
    obtain ⟨g48, d48, e9, o48⟩ := hv8 9 (by omega) 48 rfl
    simp only [putAll, Act.put, List.take_succ_cons, List.take_zero, List.drop_succ_cons, List.drop_zero, List.drop_nil, List.take_nil, Nat.reduceAdd, List.setIfInBounds_toArray, List.set_cons_succ, List.set_cons_zero, e0, e1, e2, e3, e4, e5, e6, e7, e8, e9]
    clear hv8 e0 e1 e2 e3 e4 e5 e6 e7 e8 e9
    have hB16a := hB16.ext hE8
    have y1 := hE8.cell hcE
    rw [add_plain] at y1
    have y2 := (oP.ext hE8).frozen i
    have hg48 := (o48.lt (k := g48) rfl).1
    go_upto_region 9 with (fail)
    have hT := OBC.turn_at oP hE8 o48 i 1 hi64 hE (Nat.le_refl _)
    have gs1 := grown_set W8 ⟨gP, i, none⟩ (.slice (some ⟨g48, 0, none⟩) 32 d48)
    have hB16b := hB16a.far (p := ⟨gP, i, none⟩) (by show g16 ≠ gP; omega) (.slice (some ⟨g48, 0, none⟩) 32 d48)
    have oQ2 := (oQ.ext hE8).keep gs1 (fun e => by have := hQlt gP e; omega) hP1.1
    obtain ⟨w9, hw9⟩ : ∃ w9, w9 = W8.setCell ⟨gP, i, none⟩ (.slice (some ⟨g48, 0, none⟩) 32 d48) := ⟨_, rfl⟩
    rw [← hw9] at hT hB16b oQ2 ⊢
    obtain ⟨z1, own6, hT⟩ := hT
    have HT := Lib.hid hT
    have z2 := own6.cell (i := 1) (by omega)
    have z3 := own6.frozen 1
    have z4 := bits_xor8t (ub (lb PS i) 1) tb
    have z5 := hB16b.cell (i := 1) (v := .slice (some ⟨gP, 0, none⟩) 64 dp) rfl
    clear hT y1 y2 hB16a gs1 hw9
    go_upto_region 10 with (fail)
    obtain ⟨rT, hEA⟩ := HT.out (ub (lb PS i) 1 ^^^ tb)
    have gs2 := grown_set w9 ⟨g48, 1, none⟩ (.int .u8 (u8i (ub (lb PS i) 1 ^^^ tb)))
    have hg48n : g16 < g48 := by have := hB16.lt; omega
    have hB16c := hB16b.far (p := ⟨g48, 1, none⟩) (by show g16 ≠ g48; omega) (.int .u8 (u8i (ub (lb PS i) 1 ^^^ tb)))
    have oQ3 := oQ2.keep gs2 (fun e => by have := hQlt g48 e; omega) (by show w5.heap.size ≤ g48; omega)
    obtain ⟨PT, hPT⟩ : ∃ PT, PT = PS.set i ((lb PS i).set 1 (ub (lb PS i) 1 ^^^ tb)) := ⟨_, rfl⟩
    rw [← hPT] at rT
    clear hPT z1 z2 z3 z4 z5 own6 HT oQ2 hB16b hB16 oQ oP rP rQ rE hcE hE8 o48 hE gs2 hQlt hlen hPl
    generalize w9.setCell ⟨g48, 1, none⟩ (.int .u8 (u8i (ub (lb PS i) 1 ^^^ tb))) = wA at *
    replace rM := rM.ext hEA
    replace o15 := o15.ext hEA
    replace rH := rH.ext hEA
    replace hEw := hEw.trans hEA
    have rQ := oQ3.obc.rbb
    clear hEA oQ3
    have Hhl := Lib.hid rH.len
    go_wp2_with fail
    go_loopw [18, 19] (fun b i wr => F26I wA HL M b i wr) (fun _ i _ => nh - (intOf i).toNat)
    case atStart => exact ⟨0, by omega, rfl, rfl, Ext.refl _⟩
    case round =>
      obtain ⟨j, hj, rfl, rfl, hEr⟩ := hrel
      rw [Hhl.out] at hj
      have HRH := Lib.hid rH
      have HRM := Lib.hid rM
      replace rH := rH.ext hEr
      replace rM := rM.ext hEr
      have hroomH := rH.room
      have hcapH := rH.cap
      unfold maxLen at hcapH
      by_cases hlt : j < nh
      · have hji : (j : Int) < (nh : Int) := by omega
        have hsn := inL_snoc HL M (k := j) (by rw [Hhl.out]; exact hlt)
        have Hsn := Lib.hid hsn
        obtain ⟨ad, rfl, hcs⟩ := rH.cells (by omega)
        obtain ⟨H, z, y, hcj, rHj⟩ := hcs j hlt
        clear hcs hsn
        cases hb : inL (HL.take j) M with
        | true =>
          have Hb := Lib.hid hb
          clear hb
          go_upto_region 14 with (fail)
          refine par_ext (n := 11) (by kernel_rfl) [.is (.bool (true)), .is (.bool (true)), .is undef, .is undef, .is undef, .is undef, .is undef, .is undef, .is undef, .is undef, .is (.bool (true))] rfl ⟨?_, ?_, ?_, ?_, ?_, ?_, ?_, ?_, ?_, ?_, ?_, trivial⟩ ?_
          · refine stepE rfl fun sdn sa sw sE sd sk => ?_
            have h18 : sa.eval (.tmp 18) = .bool (true) := sk.old 18 rfl
            exact Runs.move rfl h18 ⟨Ext.refl _, rfl⟩
          · refine stepE rfl fun sdn sa sw sE sd sk => ?_
            have h66 : sa.eval (.tmp 66) = .bool (true) := sk.fact 0 66 rfl (sd 0 rfl)
            exact Runs.move rfl h66 ⟨Ext.refl _, rfl⟩
          · exact stepN (j := 1) (d := 67) (b := true) rfl rfl rfl (fun v w h => h) fun w => rfl
          · exact stepN (j := 1) (d := 67) (b := true) rfl rfl rfl (fun v w h => h) fun w => rfl
          · exact stepN (j := 1) (d := 67) (b := true) rfl rfl rfl (fun v w h => h) fun w => rfl
          · exact stepN (j := 1) (d := 67) (b := true) rfl rfl rfl (fun v w h => h) fun w => rfl
          · exact stepN (j := 1) (d := 67) (b := true) rfl rfl rfl (fun v w h => h) fun w => rfl
          · exact stepN (j := 1) (d := 67) (b := true) rfl rfl rfl (fun v w h => h) fun w => rfl
          · exact stepN (j := 1) (d := 67) (b := true) rfl rfl rfl (fun v w h => h) fun w => rfl
          · exact stepN (j := 1) (d := 67) (b := true) rfl rfl rfl (fun v w h => h) fun w => rfl
          · refine stepE rfl fun sdn sa sw sE sd sk => ?_
            have h67 : sa.eval (.tmp 67) = .bool (true) := sk.fact 1 67 rfl (sd 1 rfl)
            exact Runs.pick rfl h67 ⟨Ext.refl _, rfl⟩
          intro vals W14 hE14 hv14
          have e0 : vals 0 = .bool (true) := hv14 0 (by omega) 66 rfl
          have e1 : vals 1 = .bool (true) := hv14 1 (by omega) 67 rfl
          have e10 : vals 10 = .bool (true) := hv14 10 (by omega) 76 rfl
          simp only [putAll, Act.put, List.take_succ_cons, List.take_zero, List.drop_succ_cons, List.drop_zero, List.drop_nil, List.take_nil, Nat.reduceAdd, List.setIfInBounds_toArray, List.set_cons_succ, List.set_cons_zero, e0, e1, e10]
          clear hv14 e0 e1 e10
          clear rH rM rHj hcj
          have rH := HRH.out
          have rM := HRM.out
          go_wp2_with fail
          go_roundw
          case rel => exact ⟨j + 1, by rw [Hhl.out]; omega, by go_num, by rw [Hsn.out, Hb.out]; rfl, hEr.trans hE14⟩
          case measure => simp [intOf]; omega
        | false =>
          have Hb := Lib.hid hb
          clear hb
          by_cases heq : lb HL j = M
          · have Heq := Lib.hid heq
            go_upto_region 14 with (fail)
            refine par_ext (n := 11) (by kernel_rfl) [.is (.bool (false)), .is (.bool (false)), .is (.slice ((some ad)) (nh) (d3)), .is (.int .i64 (((j : Nat) : Int))), .is (.pointer (some (ad.add j))), .is (.slice (H) (z) (y)), .is (.string (str (lb HL j))), .is (.slice (B) (m) (e')), .is (.string (str (M))), .is (.bool (true)), .is (.bool (true))] rfl ⟨?_, ?_, ?_, ?_, ?_, ?_, ?_, ?_, ?_, ?_, ?_, trivial⟩ ?_
            · refine stepE rfl fun sdn sa sw sE sd sk => ?_
              have h18 : sa.eval (.tmp 18) = .bool (false) := sk.old 18 rfl
              exact Runs.move rfl h18 ⟨Ext.refl _, rfl⟩
            · refine stepE rfl fun sdn sa sw sE sd sk => ?_
              have h66 : sa.eval (.tmp 66) = .bool (false) := sk.fact 0 66 rfl (sd 0 rfl)
              exact Runs.move rfl h66 ⟨Ext.refl _, rfl⟩
            · refine stepY (j := 1) (d := 67) (b := false) rfl rfl rfl (fun v w h => h) fun sdn sa sw sE sd sk => ?_
              have h3 : sa.eval (.tmp 3) = .slice ((some ad)) (nh) (d3) := sk.old 3 rfl
              exact Runs.move rfl h3 ⟨Ext.refl _, rfl⟩
            · refine stepY (j := 1) (d := 67) (b := false) rfl rfl rfl (fun v w h => h) fun sdn sa sw sE sd sk => ?_
              have h19 : sa.eval (.tmp 19) = .int .i64 (((j : Nat) : Int)) := sk.old 19 rfl
              exact Runs.move rfl h19 ⟨Ext.refl _, rfl⟩
            · refine stepY (j := 1) (d := 67) (b := false) rfl rfl rfl (fun v w h => h) fun sdn sa sw sE sd sk => ?_
              have h68 : sa.eval (.tmp 68) = .slice ((some ad)) (nh) (d3) := sk.fact 2 68 rfl (sd 2 rfl)
              have h69 : sa.eval (.tmp 69) = .int .i64 (((j : Nat) : Int)) := sk.fact 3 69 rfl (sd 3 rfl)
              exact Runs.idx rfl h68 h69 (run_idx_sl1 Try.underlying23 infZZ_eq infZZ_size j (by first | rfl | omega) (by omega)) ⟨Ext.refl _, rfl⟩
            · refine stepY (j := 1) (d := 67) (b := false) rfl rfl rfl (fun v w h => h) fun sdn sa sw sE sd sk => ?_
              have h70 : sa.eval (.tmp 70) = .pointer (some (ad.add j)) := sk.fact 4 70 rfl (sd 4 rfl)
              exact Runs.load rfl h70 (run_load1 Try.underlying22 rfl (sE.cell hcj)) ⟨Ext.refl _, rfl⟩
            · refine stepY (j := 1) (d := 67) (b := false) rfl rfl rfl (fun v w h => h) fun sdn sa sw sE sd sk => ?_
              have h71 : sa.eval (.tmp 71) = .slice (H) (z) (y) := sk.fact 5 71 rfl (sd 5 rfl)
              exact Runs.conv rfl h71 (run_str (rHj.ext sE)) ⟨Ext.refl _, rfl⟩
            · refine stepY (j := 1) (d := 67) (b := false) rfl rfl rfl (fun v w h => h) fun sdn sa sw sE sd sk => ?_
              have h2 : sa.eval (.tmp 2) = .slice (B) (m) (e') := sk.old 2 rfl
              exact Runs.move rfl h2 ⟨Ext.refl _, rfl⟩
            · refine stepY (j := 1) (d := 67) (b := false) rfl rfl rfl (fun v w h => h) fun sdn sa sw sE sd sk => ?_
              have h73 : sa.eval (.tmp 73) = .slice (B) (m) (e') := sk.fact 7 73 rfl (sd 7 rfl)
              exact Runs.conv rfl h73 (run_str (rM.ext sE)) ⟨Ext.refl _, rfl⟩
            · refine stepY (j := 1) (d := 67) (b := false) rfl rfl rfl (fun v w h => h) fun sdn sa sw sE sd sk => ?_
              have h72 : sa.eval (.tmp 72) = .string (str (lb HL j)) := sk.fact 6 72 rfl (sd 6 rfl)
              have h74 : sa.eval (.tmp 74) = .string (str (M)) := sk.fact 8 74 rfl (sd 8 rfl)
              exact Runs.bin rfl h72 h74 (by rfl) (bin_eqs _ _ _) ⟨Ext.refl _, congrArg Value.bool (by simp [heq])⟩
            · refine stepE rfl fun sdn sa sw sE sd sk => ?_
              have h67 : sa.eval (.tmp 67) = .bool (false) := sk.fact 1 67 rfl (sd 1 rfl)
              have h75 : sa.eval (.tmp 75) = .bool (true) := sk.fact 9 75 rfl (sd 9 rfl)
              exact Runs.pick rfl h67 ⟨Ext.refl _, by first | exact h75 | simpa using h75⟩
            intro vals W14 hE14 hv14
            have e0 : vals 0 = .bool (false) := hv14 0 (by omega) 66 rfl
            have e1 : vals 1 = .bool (false) := hv14 1 (by omega) 67 rfl
            have e2 : vals 2 = .slice ((some ad)) (nh) (d3) := hv14 2 (by omega) 68 rfl
            have e3 : vals 3 = .int .i64 (((j : Nat) : Int)) := hv14 3 (by omega) 69 rfl
            have e4 : vals 4 = .pointer (some (ad.add j)) := hv14 4 (by omega) 70 rfl
            have e5 : vals 5 = .slice (H) (z) (y) := hv14 5 (by omega) 71 rfl
            have e6 : vals 6 = .string (str (lb HL j)) := hv14 6 (by omega) 72 rfl
            have e7 : vals 7 = .slice (B) (m) (e') := hv14 7 (by omega) 73 rfl
            have e8 : vals 8 = .string (str (M)) := hv14 8 (by omega) 74 rfl
            have e9 : vals 9 = .bool (true) := hv14 9 (by omega) 75 rfl
            have e10 : vals 10 = .bool (true) := hv14 10 (by omega) 76 rfl
            simp only [putAll, Act.put, List.take_succ_cons, List.take_zero, List.drop_succ_cons, List.drop_zero, List.drop_nil, List.take_nil, Nat.reduceAdd, List.setIfInBounds_toArray, List.set_cons_succ, List.set_cons_zero, e0, e1, e2, e3, e4, e5, e6, e7, e8, e9, e10]
            clear hv14 e0 e1 e2 e3 e4 e5 e6 e7 e8 e9 e10
            clear rH rM rHj hcj heq
            have rH := HRH.out
            have rM := HRM.out
            go_wp2_with fail
            go_roundw
            case rel => exact ⟨j + 1, by rw [Hhl.out]; omega, by go_num, by rw [Hsn.out, Hb.out, decide_eq_true Heq.out]; rfl, hEr.trans hE14⟩
            case measure => simp [intOf]; omega
          · have Heq := Lib.hid heq
            go_upto_region 14 with (fail)
            refine par_ext (n := 11) (by kernel_rfl) [.is (.bool (false)), .is (.bool (false)), .is (.slice ((some ad)) (nh) (d3)), .is (.int .i64 (((j : Nat) : Int))), .is (.pointer (some (ad.add j))), .is (.slice (H) (z) (y)), .is (.string (str (lb HL j))), .is (.slice (B) (m) (e')), .is (.string (str (M))), .is (.bool (false)), .is (.bool (false))] rfl ⟨?_, ?_, ?_, ?_, ?_, ?_, ?_, ?_, ?_, ?_, ?_, trivial⟩ ?_
            · refine stepE rfl fun sdn sa sw sE sd sk => ?_
              have h18 : sa.eval (.tmp 18) = .bool (false) := sk.old 18 rfl
              exact Runs.move rfl h18 ⟨Ext.refl _, rfl⟩
            · refine stepE rfl fun sdn sa sw sE sd sk => ?_
              have h66 : sa.eval (.tmp 66) = .bool (false) := sk.fact 0 66 rfl (sd 0 rfl)
              exact Runs.move rfl h66 ⟨Ext.refl _, rfl⟩
            · refine stepY (j := 1) (d := 67) (b := false) rfl rfl rfl (fun v w h => h) fun sdn sa sw sE sd sk => ?_
              have h3 : sa.eval (.tmp 3) = .slice ((some ad)) (nh) (d3) := sk.old 3 rfl
              exact Runs.move rfl h3 ⟨Ext.refl _, rfl⟩
            · refine stepY (j := 1) (d := 67) (b := false) rfl rfl rfl (fun v w h => h) fun sdn sa sw sE sd sk => ?_
              have h19 : sa.eval (.tmp 19) = .int .i64 (((j : Nat) : Int)) := sk.old 19 rfl
              exact Runs.move rfl h19 ⟨Ext.refl _, rfl⟩
            · refine stepY (j := 1) (d := 67) (b := false) rfl rfl rfl (fun v w h => h) fun sdn sa sw sE sd sk => ?_
              have h68 : sa.eval (.tmp 68) = .slice ((some ad)) (nh) (d3) := sk.fact 2 68 rfl (sd 2 rfl)
              have h69 : sa.eval (.tmp 69) = .int .i64 (((j : Nat) : Int)) := sk.fact 3 69 rfl (sd 3 rfl)
              exact Runs.idx rfl h68 h69 (run_idx_sl1 Try.underlying23 infZZ_eq infZZ_size j (by first | rfl | omega) (by omega)) ⟨Ext.refl _, rfl⟩
            · refine stepY (j := 1) (d := 67) (b := false) rfl rfl rfl (fun v w h => h) fun sdn sa sw sE sd sk => ?_
              have h70 : sa.eval (.tmp 70) = .pointer (some (ad.add j)) := sk.fact 4 70 rfl (sd 4 rfl)
              exact Runs.load rfl h70 (run_load1 Try.underlying22 rfl (sE.cell hcj)) ⟨Ext.refl _, rfl⟩
            · refine stepY (j := 1) (d := 67) (b := false) rfl rfl rfl (fun v w h => h) fun sdn sa sw sE sd sk => ?_
              have h71 : sa.eval (.tmp 71) = .slice (H) (z) (y) := sk.fact 5 71 rfl (sd 5 rfl)
              exact Runs.conv rfl h71 (run_str (rHj.ext sE)) ⟨Ext.refl _, rfl⟩
            · refine stepY (j := 1) (d := 67) (b := false) rfl rfl rfl (fun v w h => h) fun sdn sa sw sE sd sk => ?_
              have h2 : sa.eval (.tmp 2) = .slice (B) (m) (e') := sk.old 2 rfl
              exact Runs.move rfl h2 ⟨Ext.refl _, rfl⟩
            · refine stepY (j := 1) (d := 67) (b := false) rfl rfl rfl (fun v w h => h) fun sdn sa sw sE sd sk => ?_
              have h73 : sa.eval (.tmp 73) = .slice (B) (m) (e') := sk.fact 7 73 rfl (sd 7 rfl)
              exact Runs.conv rfl h73 (run_str (rM.ext sE)) ⟨Ext.refl _, rfl⟩
            · refine stepY (j := 1) (d := 67) (b := false) rfl rfl rfl (fun v w h => h) fun sdn sa sw sE sd sk => ?_
              have h72 : sa.eval (.tmp 72) = .string (str (lb HL j)) := sk.fact 6 72 rfl (sd 6 rfl)
              have h74 : sa.eval (.tmp 74) = .string (str (M)) := sk.fact 8 74 rfl (sd 8 rfl)
              exact Runs.bin rfl h72 h74 (by rfl) (bin_eqs _ _ _) ⟨Ext.refl _, congrArg Value.bool (by simp [heq])⟩
            · refine stepE rfl fun sdn sa sw sE sd sk => ?_
              have h67 : sa.eval (.tmp 67) = .bool (false) := sk.fact 1 67 rfl (sd 1 rfl)
              have h75 : sa.eval (.tmp 75) = .bool (false) := sk.fact 9 75 rfl (sd 9 rfl)
              exact Runs.pick rfl h67 ⟨Ext.refl _, by first | exact h75 | simpa using h75⟩
            intro vals W14 hE14 hv14
            have e0 : vals 0 = .bool (false) := hv14 0 (by omega) 66 rfl
            have e1 : vals 1 = .bool (false) := hv14 1 (by omega) 67 rfl
            have e2 : vals 2 = .slice ((some ad)) (nh) (d3) := hv14 2 (by omega) 68 rfl
            have e3 : vals 3 = .int .i64 (((j : Nat) : Int)) := hv14 3 (by omega) 69 rfl
            have e4 : vals 4 = .pointer (some (ad.add j)) := hv14 4 (by omega) 70 rfl
            have e5 : vals 5 = .slice (H) (z) (y) := hv14 5 (by omega) 71 rfl
            have e6 : vals 6 = .string (str (lb HL j)) := hv14 6 (by omega) 72 rfl
            have e7 : vals 7 = .slice (B) (m) (e') := hv14 7 (by omega) 73 rfl
            have e8 : vals 8 = .string (str (M)) := hv14 8 (by omega) 74 rfl
            have e9 : vals 9 = .bool (false) := hv14 9 (by omega) 75 rfl
            have e10 : vals 10 = .bool (false) := hv14 10 (by omega) 76 rfl
            simp only [putAll, Act.put, List.take_succ_cons, List.take_zero, List.drop_succ_cons, List.drop_zero, List.drop_nil, List.take_nil, Nat.reduceAdd, List.setIfInBounds_toArray, List.set_cons_succ, List.set_cons_zero, e0, e1, e2, e3, e4, e5, e6, e7, e8, e9, e10]
            clear hv14 e0 e1 e2 e3 e4 e5 e6 e7 e8 e9 e10
            clear rH rM rHj hcj heq
            have rH := HRH.out
            have rM := HRM.out
            go_wp2_with fail
            go_roundw
            case rel => exact ⟨j + 1, by rw [Hhl.out]; omega, by go_num, by rw [Hsn.out, Hb.out, decide_eq_false Heq.out]; rfl, hEr.trans hE14⟩
            case measure => simp [intOf]; omega
      · obtain rfl : j = nh := by omega
        have e1 : HL.take j = HL := List.take_of_length_le (by rw [Hhl.out]; omega)
        rw [e1]
        clear e1 HRH HRM
        replace o15 := o15.ext hEr
        replace rT := rT.ext hEr
        replace rQ := rQ.ext hEr
        replace hB16c := hB16c.ext hEr
        replace hEw := hEw.trans hEr
        have rP := rT
        have hB16 := hB16c
        clear rT hB16c hEr
        go_upto_region 15 with (fail)
        cases hb : inL HL M with
        | true =>
          have Hb := Lib.hid hb
          clear hb
          cases hv : verB (ownP S) M ((k : Nat) : Int) PT QS with
          | true =>
            have Hv := Lib.hid hv
            clear hv
            refine par_ext (n := 19) (by kernel_rfl) [.is (.pointer (some ⟨g15, 0, none⟩)), .rk (32) (ownP S), .is (.slice (A3) (j) (d3)), .is (.slice (B) (m) (e')), .is (.agg #[.int .i64 (((k : Nat) : Int)), .slice ((some ⟨gP, 0, none⟩)) (64) (dp), .slice (Q) (4) (dq)]), .is (.bool (false)), .is (.pointer (some ⟨g15, 0, none⟩)), .rk (32) (ownP S), .is (.slice (B) (m) (e')), .is (.agg #[.int .i64 (((k : Nat) : Int)), .slice ((some ⟨gP, 0, none⟩)) (64) (dp), .slice (Q) (4) (dq)]), .is (.bool (true)), .is (.bool (true)), .is (.bool (true)), .is (.bool (false)), .is (.bool (false)), .is (.bool (true)), .is (.bool (true)), .is (.bool (true)), .is (.bool (true))] rfl ⟨?_, ?_, ?_, ?_, ?_, ?_, ?_, ?_, ?_, ?_, ?_, ?_, ?_, ?_, ?_, ?_, ?_, ?_, ?_, trivial⟩ ?_
            · refine stepE rfl fun sdn sa sw sE sd sk => ?_
              have h15 : sa.eval (.tmp 15) = .pointer (some ⟨g15, 0, none⟩) := sk.old 15 rfl
              exact Runs.move rfl h15 ⟨Ext.refl _, rfl⟩
            · refine stepE rfl fun sdn sa sw sE sd sk => ?_
              have h77 : sa.eval (.tmp 77) = .pointer (some ⟨g15, 0, none⟩) := sk.fact 0 77 rfl (sd 0 rfl)
              refine Runs.call (f := 27) (vs := [.pointer (some ⟨g15, 0, none⟩)]) rfl rfl rfl (by simp only [List.map_toArray, List.map_cons, List.map_nil, h77] <;> rfl) (ent27 _ _) ((rpublic_any _ _ _ sw (o15.ext sE)).mono ?_); rintro e w' ⟨A', c', rfl, own, hx⟩; exact ⟨_, rfl, hx, A', c', rfl, own⟩
            · refine stepE rfl fun sdn sa sw sE sd sk => ?_
              have h3 : sa.eval (.tmp 3) = .slice (A3) (j) (d3) := sk.old 3 rfl
              exact Runs.move rfl h3 ⟨Ext.refl _, rfl⟩
            · refine stepE rfl fun sdn sa sw sE sd sk => ?_
              have h2 : sa.eval (.tmp 2) = .slice (B) (m) (e') := sk.old 2 rfl
              exact Runs.move rfl h2 ⟨Ext.refl _, rfl⟩
            · refine stepE rfl fun sdn sa sw sE sd sk => ?_
              have h16 : sa.eval (.tmp 16) = .pointer (some ⟨g16, 0, none⟩) := sk.old 16 rfl
              exact Runs.load rfl h16 (load_part (hB16.ext sE) 0 (vs := [.int .i64 (((k : Nat) : Int)), .slice ((some ⟨gP, 0, none⟩)) (64) (dp), .slice (Q) (4) (dq)]) rfl Try.underlying42 rfl (by kernel_rfl)) ⟨Ext.refl _, rfl⟩
            · refine stepE rfl fun sdn sa sw sE sd sk => ?_
              obtain ⟨A78, c78, h78, r78⟩ := sk.fact 1 78 rfl (sd 1 rfl)
              have h79 : sa.eval (.tmp 79) = .slice (A3) (j) (d3) := sk.fact 2 79 rfl (sd 2 rfl)
              have h80 : sa.eval (.tmp 80) = .slice (B) (m) (e') := sk.fact 3 80 rfl (sd 3 rfl)
              have h81 : sa.eval (.tmp 81) = .agg #[.int .i64 (((k : Nat) : Int)), .slice ((some ⟨gP, 0, none⟩)) (64) (dp), .slice (Q) (4) (dq)] := sk.fact 4 81 rfl (sd 4 rfl)
              refine Runs.call (f := 26) (vs := [.slice (A78) (32) (c78), .slice (A3) (j) (d3), .slice (B) (m) (e'), .agg #[.int .i64 (((k : Nat) : Int)), .slice ((some ⟨gP, 0, none⟩)) (64) (dp), .slice (Q) (4) (dq)]]) rfl rfl rfl (by simp only [List.map_toArray, List.map_cons, List.map_nil, h78, h79, h80, h81] <;> rfl) (ent26 _ _) ((forged_any _ _ _ _ _ _ _ _ _ _ _ _ _ _ _ _ _ _ _ _ _ sw r78 (rH.ext sE) (rM.ext sE) (by omega) (rP.ext sE) (rQ.ext sE)).mono ?_); rintro e w' ⟨rfl, hx⟩; exact ⟨_, rfl, hx, congrArg Value.bool (by rw [Hv.out, Hb.out]; rfl)⟩
            · refine stepE rfl fun sdn sa sw sE sd sk => ?_
              have h15 : sa.eval (.tmp 15) = .pointer (some ⟨g15, 0, none⟩) := sk.old 15 rfl
              exact Runs.move rfl h15 ⟨Ext.refl _, rfl⟩
            · refine stepE rfl fun sdn sa sw sE sd sk => ?_
              have h83 : sa.eval (.tmp 83) = .pointer (some ⟨g15, 0, none⟩) := sk.fact 6 83 rfl (sd 6 rfl)
              refine Runs.call (f := 27) (vs := [.pointer (some ⟨g15, 0, none⟩)]) rfl rfl rfl (by simp only [List.map_toArray, List.map_cons, List.map_nil, h83] <;> rfl) (ent27 _ _) ((rpublic_any _ _ _ sw (o15.ext sE)).mono ?_); rintro e w' ⟨A', c', rfl, own, hx⟩; exact ⟨_, rfl, hx, A', c', rfl, own⟩
            · refine stepE rfl fun sdn sa sw sE sd sk => ?_
              have h2 : sa.eval (.tmp 2) = .slice (B) (m) (e') := sk.old 2 rfl
              exact Runs.move rfl h2 ⟨Ext.refl _, rfl⟩
            · refine stepE rfl fun sdn sa sw sE sd sk => ?_
              have h16 : sa.eval (.tmp 16) = .pointer (some ⟨g16, 0, none⟩) := sk.old 16 rfl
              exact Runs.load rfl h16 (load_part (hB16.ext sE) 0 (vs := [.int .i64 (((k : Nat) : Int)), .slice ((some ⟨gP, 0, none⟩)) (64) (dp), .slice (Q) (4) (dq)]) rfl Try.underlying42 rfl (by kernel_rfl)) ⟨Ext.refl _, rfl⟩
            · refine stepE rfl fun sdn sa sw sE sd sk => ?_
              obtain ⟨A84, c84, h84, r84⟩ := sk.fact 7 84 rfl (sd 7 rfl)
              have h85 : sa.eval (.tmp 85) = .slice (B) (m) (e') := sk.fact 8 85 rfl (sd 8 rfl)
              have h86 : sa.eval (.tmp 86) = .agg #[.int .i64 (((k : Nat) : Int)), .slice ((some ⟨gP, 0, none⟩)) (64) (dp), .slice (Q) (4) (dq)] := sk.fact 9 86 rfl (sd 9 rfl)
              refine Runs.call (f := 28) (vs := [.slice (A84) (32) (c84), .slice (B) (m) (e'), .agg #[.int .i64 (((k : Nat) : Int)), .slice ((some ⟨gP, 0, none⟩)) (64) (dp), .slice (Q) (4) (dq)]]) rfl rfl rfl (by simp only [List.map_toArray, List.map_cons, List.map_nil, h84, h85, h86] <;> rfl) (ent28 _ _) ((rverify_len _ _ _ _ _ _ _ _ _ _ _ _ _ _ _ _ _ sw r84 (rM.ext sE) lenV (rP.ext sE) (rQ.ext sE)).mono ?_); rintro e w' ⟨rfl, hx⟩; exact ⟨_, rfl, hx, congrArg Value.bool (Hv.out)⟩
            · refine stepE rfl fun sdn sa sw sE sd sk => ?_
              have h87 : sa.eval (.tmp 87) = .bool (true) := sk.fact 10 87 rfl (sd 10 rfl)
              exact Runs.move rfl h87 ⟨Ext.refl _, rfl⟩
            · refine stepY (j := 11) (d := 88) (b := true) rfl rfl rfl (fun v w h => h) fun sdn sa sw sE sd sk => ?_
              have h18 : sa.eval (.tmp 18) = .bool (true) := sk.old 18 rfl
              exact Runs.move rfl h18 ⟨Ext.refl _, rfl⟩
            · refine stepY (j := 11) (d := 88) (b := true) rfl rfl rfl (fun v w h => h) fun sdn sa sw sE sd sk => ?_
              have h89 : sa.eval (.tmp 89) = .bool (true) := sk.fact 12 89 rfl (sd 12 rfl)
              exact Runs.un rfl h89 (by rfl) ⟨Ext.refl _, rfl⟩
            · refine stepE rfl fun sdn sa sw sE sd sk => ?_
              have h88 : sa.eval (.tmp 88) = .bool (true) := sk.fact 11 88 rfl (sd 11 rfl)
              have h90 : sa.eval (.tmp 90) = .bool (false) := sk.fact 13 90 rfl (sd 13 rfl)
              exact Runs.pick rfl h88 ⟨Ext.refl _, by first | exact h90 | simpa using h90⟩
            · refine stepE rfl fun sdn sa sw sE sd sk => ?_
              have h82 : sa.eval (.tmp 82) = .bool (false) := sk.fact 5 82 rfl (sd 5 rfl)
              have h91 : sa.eval (.tmp 91) = .bool (false) := sk.fact 14 91 rfl (sd 14 rfl)
              exact Runs.bin rfl h82 h91 (by rfl) (bin_eqb _ _) ⟨Ext.refl _, congrArg Value.bool (by decide)⟩
            · refine stepE rfl fun sdn sa sw sE sd sk => ?_
              have h92 : sa.eval (.tmp 92) = .bool (true) := sk.fact 15 92 rfl (sd 15 rfl)
              exact Runs.move rfl h92 ⟨Ext.refl _, rfl⟩
            · refine stepY (j := 16) (d := 93) (b := true) rfl rfl rfl (fun v w h => h) fun sdn sa sw sE sd sk => ?_
              refine Runs.call (f := 15) (vs := []) rfl rfl rfl (by simp only [List.map_toArray, List.map_cons, List.map_nil] <;> rfl) (ent15 _ _) ((known26_any sw).mono ?_); rintro e w' ⟨rfl, hx⟩; exact ⟨_, rfl, hx, rfl⟩
            · refine stepE rfl fun sdn sa sw sE sd sk => ?_
              have h93 : sa.eval (.tmp 93) = .bool (true) := sk.fact 16 93 rfl (sd 16 rfl)
              have h94 : sa.eval (.tmp 94) = .bool (true) := sk.fact 17 94 rfl (sd 17 rfl)
              exact Runs.pick rfl h93 ⟨Ext.refl _, by first | exact h94 | simpa using h94⟩
            intro vals W15 hE15 hv15
            have e0 : vals 0 = .pointer (some ⟨g15, 0, none⟩) := hv15 0 (by omega) 77 rfl
            obtain ⟨A78, c78, e1, r78⟩ := hv15 1 (by omega) 78 rfl
            have e2 : vals 2 = .slice (A3) (j) (d3) := hv15 2 (by omega) 79 rfl
            have e3 : vals 3 = .slice (B) (m) (e') := hv15 3 (by omega) 80 rfl
            have e4 : vals 4 = .agg #[.int .i64 (((k : Nat) : Int)), .slice ((some ⟨gP, 0, none⟩)) (64) (dp), .slice (Q) (4) (dq)] := hv15 4 (by omega) 81 rfl
            have e5 : vals 5 = .bool (false) := hv15 5 (by omega) 82 rfl
            have e6 : vals 6 = .pointer (some ⟨g15, 0, none⟩) := hv15 6 (by omega) 83 rfl
            obtain ⟨A84, c84, e7, r84⟩ := hv15 7 (by omega) 84 rfl
            have e8 : vals 8 = .slice (B) (m) (e') := hv15 8 (by omega) 85 rfl
            have e9 : vals 9 = .agg #[.int .i64 (((k : Nat) : Int)), .slice ((some ⟨gP, 0, none⟩)) (64) (dp), .slice (Q) (4) (dq)] := hv15 9 (by omega) 86 rfl
            have e10 : vals 10 = .bool (true) := hv15 10 (by omega) 87 rfl
            have e11 : vals 11 = .bool (true) := hv15 11 (by omega) 88 rfl
            have e12 : vals 12 = .bool (true) := hv15 12 (by omega) 89 rfl
            have e13 : vals 13 = .bool (false) := hv15 13 (by omega) 90 rfl
            have e14 : vals 14 = .bool (false) := hv15 14 (by omega) 91 rfl
            have e15 : vals 15 = .bool (true) := hv15 15 (by omega) 92 rfl
            have e16 : vals 16 = .bool (true) := hv15 16 (by omega) 93 rfl
            have e17 : vals 17 = .bool (true) := hv15 17 (by omega) 94 rfl
            have e18 : vals 18 = .bool (true) := hv15 18 (by omega) 95 rfl
            simp only [putAll, Act.put, List.take_succ_cons, List.take_zero, List.drop_succ_cons, List.drop_zero, List.drop_nil, List.take_nil, Nat.reduceAdd, List.setIfInBounds_toArray, List.set_cons_succ, List.set_cons_zero, e0, e1, e2, e3, e4, e5, e6, e7, e8, e9, e10, e11, e12, e13, e14, e15, e16, e17, e18]
            clear hv15 e0 e1 e2 e3 e4 e5 e6 e7 e8 e9 e10 e11 e12 e13 e14 e15 e16 e17 e18
            go_wp2_with fail
            go_ret
            exact ⟨rfl, hEw.trans hE15⟩
          | false =>
            have Hv := Lib.hid hv
            clear hv
            refine par_ext (n := 19) (by kernel_rfl) [.is (.pointer (some ⟨g15, 0, none⟩)), .rk (32) (ownP S), .is (.slice (A3) (j) (d3)), .is (.slice (B) (m) (e')), .is (.agg #[.int .i64 (((k : Nat) : Int)), .slice ((some ⟨gP, 0, none⟩)) (64) (dp), .slice (Q) (4) (dq)]), .is (.bool (false)), .is (.pointer (some ⟨g15, 0, none⟩)), .rk (32) (ownP S), .is (.slice (B) (m) (e')), .is (.agg #[.int .i64 (((k : Nat) : Int)), .slice ((some ⟨gP, 0, none⟩)) (64) (dp), .slice (Q) (4) (dq)]), .is (.bool (false)), .is (.bool (false)), .is undef, .is undef, .is (.bool (false)), .is (.bool (true)), .is (.bool (true)), .is (.bool (true)), .is (.bool (true))] rfl ⟨?_, ?_, ?_, ?_, ?_, ?_, ?_, ?_, ?_, ?_, ?_, ?_, ?_, ?_, ?_, ?_, ?_, ?_, ?_, trivial⟩ ?_
            · refine stepE rfl fun sdn sa sw sE sd sk => ?_
              have h15 : sa.eval (.tmp 15) = .pointer (some ⟨g15, 0, none⟩) := sk.old 15 rfl
              exact Runs.move rfl h15 ⟨Ext.refl _, rfl⟩
            · refine stepE rfl fun sdn sa sw sE sd sk => ?_
              have h77 : sa.eval (.tmp 77) = .pointer (some ⟨g15, 0, none⟩) := sk.fact 0 77 rfl (sd 0 rfl)
              refine Runs.call (f := 27) (vs := [.pointer (some ⟨g15, 0, none⟩)]) rfl rfl rfl (by simp only [List.map_toArray, List.map_cons, List.map_nil, h77] <;> rfl) (ent27 _ _) ((rpublic_any _ _ _ sw (o15.ext sE)).mono ?_); rintro e w' ⟨A', c', rfl, own, hx⟩; exact ⟨_, rfl, hx, A', c', rfl, own⟩
            · refine stepE rfl fun sdn sa sw sE sd sk => ?_
              have h3 : sa.eval (.tmp 3) = .slice (A3) (j) (d3) := sk.old 3 rfl
              exact Runs.move rfl h3 ⟨Ext.refl _, rfl⟩
            · refine stepE rfl fun sdn sa sw sE sd sk => ?_
              have h2 : sa.eval (.tmp 2) = .slice (B) (m) (e') := sk.old 2 rfl
              exact Runs.move rfl h2 ⟨Ext.refl _, rfl⟩
            · refine stepE rfl fun sdn sa sw sE sd sk => ?_
              have h16 : sa.eval (.tmp 16) = .pointer (some ⟨g16, 0, none⟩) := sk.old 16 rfl
              exact Runs.load rfl h16 (load_part (hB16.ext sE) 0 (vs := [.int .i64 (((k : Nat) : Int)), .slice ((some ⟨gP, 0, none⟩)) (64) (dp), .slice (Q) (4) (dq)]) rfl Try.underlying42 rfl (by kernel_rfl)) ⟨Ext.refl _, rfl⟩
            · refine stepE rfl fun sdn sa sw sE sd sk => ?_
              obtain ⟨A78, c78, h78, r78⟩ := sk.fact 1 78 rfl (sd 1 rfl)
              have h79 : sa.eval (.tmp 79) = .slice (A3) (j) (d3) := sk.fact 2 79 rfl (sd 2 rfl)
              have h80 : sa.eval (.tmp 80) = .slice (B) (m) (e') := sk.fact 3 80 rfl (sd 3 rfl)
              have h81 : sa.eval (.tmp 81) = .agg #[.int .i64 (((k : Nat) : Int)), .slice ((some ⟨gP, 0, none⟩)) (64) (dp), .slice (Q) (4) (dq)] := sk.fact 4 81 rfl (sd 4 rfl)
              refine Runs.call (f := 26) (vs := [.slice (A78) (32) (c78), .slice (A3) (j) (d3), .slice (B) (m) (e'), .agg #[.int .i64 (((k : Nat) : Int)), .slice ((some ⟨gP, 0, none⟩)) (64) (dp), .slice (Q) (4) (dq)]]) rfl rfl rfl (by simp only [List.map_toArray, List.map_cons, List.map_nil, h78, h79, h80, h81] <;> rfl) (ent26 _ _) ((forged_any _ _ _ _ _ _ _ _ _ _ _ _ _ _ _ _ _ _ _ _ _ sw r78 (rH.ext sE) (rM.ext sE) (by omega) (rP.ext sE) (rQ.ext sE)).mono ?_); rintro e w' ⟨rfl, hx⟩; exact ⟨_, rfl, hx, congrArg Value.bool (by rw [Hv.out, Hb.out]; rfl)⟩
            · refine stepE rfl fun sdn sa sw sE sd sk => ?_
              have h15 : sa.eval (.tmp 15) = .pointer (some ⟨g15, 0, none⟩) := sk.old 15 rfl
              exact Runs.move rfl h15 ⟨Ext.refl _, rfl⟩
            · refine stepE rfl fun sdn sa sw sE sd sk => ?_
              have h83 : sa.eval (.tmp 83) = .pointer (some ⟨g15, 0, none⟩) := sk.fact 6 83 rfl (sd 6 rfl)
              refine Runs.call (f := 27) (vs := [.pointer (some ⟨g15, 0, none⟩)]) rfl rfl rfl (by simp only [List.map_toArray, List.map_cons, List.map_nil, h83] <;> rfl) (ent27 _ _) ((rpublic_any _ _ _ sw (o15.ext sE)).mono ?_); rintro e w' ⟨A', c', rfl, own, hx⟩; exact ⟨_, rfl, hx, A', c', rfl, own⟩
            · refine stepE rfl fun sdn sa sw sE sd sk => ?_
              have h2 : sa.eval (.tmp 2) = .slice (B) (m) (e') := sk.old 2 rfl
              exact Runs.move rfl h2 ⟨Ext.refl _, rfl⟩
            · refine stepE rfl fun sdn sa sw sE sd sk => ?_
              have h16 : sa.eval (.tmp 16) = .pointer (some ⟨g16, 0, none⟩) := sk.old 16 rfl
              exact Runs.load rfl h16 (load_part (hB16.ext sE) 0 (vs := [.int .i64 (((k : Nat) : Int)), .slice ((some ⟨gP, 0, none⟩)) (64) (dp), .slice (Q) (4) (dq)]) rfl Try.underlying42 rfl (by kernel_rfl)) ⟨Ext.refl _, rfl⟩
            · refine stepE rfl fun sdn sa sw sE sd sk => ?_
              obtain ⟨A84, c84, h84, r84⟩ := sk.fact 7 84 rfl (sd 7 rfl)
              have h85 : sa.eval (.tmp 85) = .slice (B) (m) (e') := sk.fact 8 85 rfl (sd 8 rfl)
              have h86 : sa.eval (.tmp 86) = .agg #[.int .i64 (((k : Nat) : Int)), .slice ((some ⟨gP, 0, none⟩)) (64) (dp), .slice (Q) (4) (dq)] := sk.fact 9 86 rfl (sd 9 rfl)
              refine Runs.call (f := 28) (vs := [.slice (A84) (32) (c84), .slice (B) (m) (e'), .agg #[.int .i64 (((k : Nat) : Int)), .slice ((some ⟨gP, 0, none⟩)) (64) (dp), .slice (Q) (4) (dq)]]) rfl rfl rfl (by simp only [List.map_toArray, List.map_cons, List.map_nil, h84, h85, h86] <;> rfl) (ent28 _ _) ((rverify_len _ _ _ _ _ _ _ _ _ _ _ _ _ _ _ _ _ sw r84 (rM.ext sE) lenV (rP.ext sE) (rQ.ext sE)).mono ?_); rintro e w' ⟨rfl, hx⟩; exact ⟨_, rfl, hx, congrArg Value.bool (Hv.out)⟩
            · refine stepE rfl fun sdn sa sw sE sd sk => ?_
              have h87 : sa.eval (.tmp 87) = .bool (false) := sk.fact 10 87 rfl (sd 10 rfl)
              exact Runs.move rfl h87 ⟨Ext.refl _, rfl⟩
            · exact stepN (j := 11) (d := 88) (b := false) rfl rfl rfl (fun v w h => h) fun w => rfl
            · exact stepN (j := 11) (d := 88) (b := false) rfl rfl rfl (fun v w h => h) fun w => rfl
            · refine stepE rfl fun sdn sa sw sE sd sk => ?_
              have h88 : sa.eval (.tmp 88) = .bool (false) := sk.fact 11 88 rfl (sd 11 rfl)
              exact Runs.pick rfl h88 ⟨Ext.refl _, rfl⟩
            · refine stepE rfl fun sdn sa sw sE sd sk => ?_
              have h82 : sa.eval (.tmp 82) = .bool (false) := sk.fact 5 82 rfl (sd 5 rfl)
              have h91 : sa.eval (.tmp 91) = .bool (false) := sk.fact 14 91 rfl (sd 14 rfl)
              exact Runs.bin rfl h82 h91 (by rfl) (bin_eqb _ _) ⟨Ext.refl _, congrArg Value.bool (by decide)⟩
            · refine stepE rfl fun sdn sa sw sE sd sk => ?_
              have h92 : sa.eval (.tmp 92) = .bool (true) := sk.fact 15 92 rfl (sd 15 rfl)
              exact Runs.move rfl h92 ⟨Ext.refl _, rfl⟩
            · refine stepY (j := 16) (d := 93) (b := true) rfl rfl rfl (fun v w h => h) fun sdn sa sw sE sd sk => ?_
              refine Runs.call (f := 15) (vs := []) rfl rfl rfl (by simp only [List.map_toArray, List.map_cons, List.map_nil] <;> rfl) (ent15 _ _) ((known26_any sw).mono ?_); rintro e w' ⟨rfl, hx⟩; exact ⟨_, rfl, hx, rfl⟩
            · refine stepE rfl fun sdn sa sw sE sd sk => ?_
              have h93 : sa.eval (.tmp 93) = .bool (true) := sk.fact 16 93 rfl (sd 16 rfl)
              have h94 : sa.eval (.tmp 94) = .bool (true) := sk.fact 17 94 rfl (sd 17 rfl)
              exact Runs.pick rfl h93 ⟨Ext.refl _, by first | exact h94 | simpa using h94⟩
            intro vals W15 hE15 hv15
            have e0 : vals 0 = .pointer (some ⟨g15, 0, none⟩) := hv15 0 (by omega) 77 rfl
            obtain ⟨A78, c78, e1, r78⟩ := hv15 1 (by omega) 78 rfl
            have e2 : vals 2 = .slice (A3) (j) (d3) := hv15 2 (by omega) 79 rfl
            have e3 : vals 3 = .slice (B) (m) (e') := hv15 3 (by omega) 80 rfl
            have e4 : vals 4 = .agg #[.int .i64 (((k : Nat) : Int)), .slice ((some ⟨gP, 0, none⟩)) (64) (dp), .slice (Q) (4) (dq)] := hv15 4 (by omega) 81 rfl
            have e5 : vals 5 = .bool (false) := hv15 5 (by omega) 82 rfl
            have e6 : vals 6 = .pointer (some ⟨g15, 0, none⟩) := hv15 6 (by omega) 83 rfl
            obtain ⟨A84, c84, e7, r84⟩ := hv15 7 (by omega) 84 rfl
            have e8 : vals 8 = .slice (B) (m) (e') := hv15 8 (by omega) 85 rfl
            have e9 : vals 9 = .agg #[.int .i64 (((k : Nat) : Int)), .slice ((some ⟨gP, 0, none⟩)) (64) (dp), .slice (Q) (4) (dq)] := hv15 9 (by omega) 86 rfl
            have e10 : vals 10 = .bool (false) := hv15 10 (by omega) 87 rfl
            have e11 : vals 11 = .bool (false) := hv15 11 (by omega) 88 rfl
            have e14 : vals 14 = .bool (false) := hv15 14 (by omega) 91 rfl
            have e15 : vals 15 = .bool (true) := hv15 15 (by omega) 92 rfl
            have e16 : vals 16 = .bool (true) := hv15 16 (by omega) 93 rfl
            have e17 : vals 17 = .bool (true) := hv15 17 (by omega) 94 rfl
            have e18 : vals 18 = .bool (true) := hv15 18 (by omega) 95 rfl
            simp only [putAll, Act.put, List.take_succ_cons, List.take_zero, List.drop_succ_cons, List.drop_zero, List.drop_nil, List.take_nil, Nat.reduceAdd, List.setIfInBounds_toArray, List.set_cons_succ, List.set_cons_zero, e0, e1, e2, e3, e4, e5, e6, e7, e8, e9, e10, e11, e14, e15, e16, e17, e18]
            clear hv15 e0 e1 e2 e3 e4 e5 e6 e7 e8 e9 e10 e11 e14 e15 e16 e17 e18
            go_wp2_with fail
            go_ret
            exact ⟨rfl, hEw.trans hE15⟩
        | false =>
          have Hb := Lib.hid hb
          clear hb
          cases hv : verB (ownP S) M ((k : Nat) : Int) PT QS with
          | true =>
            have Hv := Lib.hid hv
            clear hv
            refine par_ext (n := 19) (by kernel_rfl) [.is (.pointer (some ⟨g15, 0, none⟩)), .rk (32) (ownP S), .is (.slice (A3) (j) (d3)), .is (.slice (B) (m) (e')), .is (.agg #[.int .i64 (((k : Nat) : Int)), .slice ((some ⟨gP, 0, none⟩)) (64) (dp), .slice (Q) (4) (dq)]), .is (.bool (true)), .is (.pointer (some ⟨g15, 0, none⟩)), .rk (32) (ownP S), .is (.slice (B) (m) (e')), .is (.agg #[.int .i64 (((k : Nat) : Int)), .slice ((some ⟨gP, 0, none⟩)) (64) (dp), .slice (Q) (4) (dq)]), .is (.bool (true)), .is (.bool (true)), .is (.bool (false)), .is (.bool (true)), .is (.bool (true)), .is (.bool (true)), .is (.bool (true)), .is (.bool (true)), .is (.bool (true))] rfl ⟨?_, ?_, ?_, ?_, ?_, ?_, ?_, ?_, ?_, ?_, ?_, ?_, ?_, ?_, ?_, ?_, ?_, ?_, ?_, trivial⟩ ?_
            · refine stepE rfl fun sdn sa sw sE sd sk => ?_
              have h15 : sa.eval (.tmp 15) = .pointer (some ⟨g15, 0, none⟩) := sk.old 15 rfl
              exact Runs.move rfl h15 ⟨Ext.refl _, rfl⟩
            · refine stepE rfl fun sdn sa sw sE sd sk => ?_
              have h77 : sa.eval (.tmp 77) = .pointer (some ⟨g15, 0, none⟩) := sk.fact 0 77 rfl (sd 0 rfl)
              refine Runs.call (f := 27) (vs := [.pointer (some ⟨g15, 0, none⟩)]) rfl rfl rfl (by simp only [List.map_toArray, List.map_cons, List.map_nil, h77] <;> rfl) (ent27 _ _) ((rpublic_any _ _ _ sw (o15.ext sE)).mono ?_); rintro e w' ⟨A', c', rfl, own, hx⟩; exact ⟨_, rfl, hx, A', c', rfl, own⟩
            · refine stepE rfl fun sdn sa sw sE sd sk => ?_
              have h3 : sa.eval (.tmp 3) = .slice (A3) (j) (d3) := sk.old 3 rfl
              exact Runs.move rfl h3 ⟨Ext.refl _, rfl⟩
            · refine stepE rfl fun sdn sa sw sE sd sk => ?_
              have h2 : sa.eval (.tmp 2) = .slice (B) (m) (e') := sk.old 2 rfl
              exact Runs.move rfl h2 ⟨Ext.refl _, rfl⟩
            · refine stepE rfl fun sdn sa sw sE sd sk => ?_
              have h16 : sa.eval (.tmp 16) = .pointer (some ⟨g16, 0, none⟩) := sk.old 16 rfl
              exact Runs.load rfl h16 (load_part (hB16.ext sE) 0 (vs := [.int .i64 (((k : Nat) : Int)), .slice ((some ⟨gP, 0, none⟩)) (64) (dp), .slice (Q) (4) (dq)]) rfl Try.underlying42 rfl (by kernel_rfl)) ⟨Ext.refl _, rfl⟩
            · refine stepE rfl fun sdn sa sw sE sd sk => ?_
              obtain ⟨A78, c78, h78, r78⟩ := sk.fact 1 78 rfl (sd 1 rfl)
              have h79 : sa.eval (.tmp 79) = .slice (A3) (j) (d3) := sk.fact 2 79 rfl (sd 2 rfl)
              have h80 : sa.eval (.tmp 80) = .slice (B) (m) (e') := sk.fact 3 80 rfl (sd 3 rfl)
              have h81 : sa.eval (.tmp 81) = .agg #[.int .i64 (((k : Nat) : Int)), .slice ((some ⟨gP, 0, none⟩)) (64) (dp), .slice (Q) (4) (dq)] := sk.fact 4 81 rfl (sd 4 rfl)
              refine Runs.call (f := 26) (vs := [.slice (A78) (32) (c78), .slice (A3) (j) (d3), .slice (B) (m) (e'), .agg #[.int .i64 (((k : Nat) : Int)), .slice ((some ⟨gP, 0, none⟩)) (64) (dp), .slice (Q) (4) (dq)]]) rfl rfl rfl (by simp only [List.map_toArray, List.map_cons, List.map_nil, h78, h79, h80, h81] <;> rfl) (ent26 _ _) ((forged_any _ _ _ _ _ _ _ _ _ _ _ _ _ _ _ _ _ _ _ _ _ sw r78 (rH.ext sE) (rM.ext sE) (by omega) (rP.ext sE) (rQ.ext sE)).mono ?_); rintro e w' ⟨rfl, hx⟩; exact ⟨_, rfl, hx, congrArg Value.bool (by rw [Hv.out, Hb.out]; rfl)⟩
            · refine stepE rfl fun sdn sa sw sE sd sk => ?_
              have h15 : sa.eval (.tmp 15) = .pointer (some ⟨g15, 0, none⟩) := sk.old 15 rfl
              exact Runs.move rfl h15 ⟨Ext.refl _, rfl⟩
            · refine stepE rfl fun sdn sa sw sE sd sk => ?_
              have h83 : sa.eval (.tmp 83) = .pointer (some ⟨g15, 0, none⟩) := sk.fact 6 83 rfl (sd 6 rfl)
              refine Runs.call (f := 27) (vs := [.pointer (some ⟨g15, 0, none⟩)]) rfl rfl rfl (by simp only [List.map_toArray, List.map_cons, List.map_nil, h83] <;> rfl) (ent27 _ _) ((rpublic_any _ _ _ sw (o15.ext sE)).mono ?_); rintro e w' ⟨A', c', rfl, own, hx⟩; exact ⟨_, rfl, hx, A', c', rfl, own⟩
            · refine stepE rfl fun sdn sa sw sE sd sk => ?_
              have h2 : sa.eval (.tmp 2) = .slice (B) (m) (e') := sk.old 2 rfl
              exact Runs.move rfl h2 ⟨Ext.refl _, rfl⟩
            · refine stepE rfl fun sdn sa sw sE sd sk => ?_
              have h16 : sa.eval (.tmp 16) = .pointer (some ⟨g16, 0, none⟩) := sk.old 16 rfl
              exact Runs.load rfl h16 (load_part (hB16.ext sE) 0 (vs := [.int .i64 (((k : Nat) : Int)), .slice ((some ⟨gP, 0, none⟩)) (64) (dp), .slice (Q) (4) (dq)]) rfl Try.underlying42 rfl (by kernel_rfl)) ⟨Ext.refl _, rfl⟩
            · refine stepE rfl fun sdn sa sw sE sd sk => ?_
              obtain ⟨A84, c84, h84, r84⟩ := sk.fact 7 84 rfl (sd 7 rfl)
              have h85 : sa.eval (.tmp 85) = .slice (B) (m) (e') := sk.fact 8 85 rfl (sd 8 rfl)
              have h86 : sa.eval (.tmp 86) = .agg #[.int .i64 (((k : Nat) : Int)), .slice ((some ⟨gP, 0, none⟩)) (64) (dp), .slice (Q) (4) (dq)] := sk.fact 9 86 rfl (sd 9 rfl)
              refine Runs.call (f := 28) (vs := [.slice (A84) (32) (c84), .slice (B) (m) (e'), .agg #[.int .i64 (((k : Nat) : Int)), .slice ((some ⟨gP, 0, none⟩)) (64) (dp), .slice (Q) (4) (dq)]]) rfl rfl rfl (by simp only [List.map_toArray, List.map_cons, List.map_nil, h84, h85, h86] <;> rfl) (ent28 _ _) ((rverify_len _ _ _ _ _ _ _ _ _ _ _ _ _ _ _ _ _ sw r84 (rM.ext sE) lenV (rP.ext sE) (rQ.ext sE)).mono ?_); rintro e w' ⟨rfl, hx⟩; exact ⟨_, rfl, hx, congrArg Value.bool (Hv.out)⟩
            · refine stepE rfl fun sdn sa sw sE sd sk => ?_
              have h87 : sa.eval (.tmp 87) = .bool (true) := sk.fact 10 87 rfl (sd 10 rfl)
              exact Runs.move rfl h87 ⟨Ext.refl _, rfl⟩
            · refine stepY (j := 11) (d := 88) (b := true) rfl rfl rfl (fun v w h => h) fun sdn sa sw sE sd sk => ?_
              have h18 : sa.eval (.tmp 18) = .bool (false) := sk.old 18 rfl
              exact Runs.move rfl h18 ⟨Ext.refl _, rfl⟩
            · refine stepY (j := 11) (d := 88) (b := true) rfl rfl rfl (fun v w h => h) fun sdn sa sw sE sd sk => ?_
              have h89 : sa.eval (.tmp 89) = .bool (false) := sk.fact 12 89 rfl (sd 12 rfl)
              exact Runs.un rfl h89 (by rfl) ⟨Ext.refl _, rfl⟩
            · refine stepE rfl fun sdn sa sw sE sd sk => ?_
              have h88 : sa.eval (.tmp 88) = .bool (true) := sk.fact 11 88 rfl (sd 11 rfl)
              have h90 : sa.eval (.tmp 90) = .bool (true) := sk.fact 13 90 rfl (sd 13 rfl)
              exact Runs.pick rfl h88 ⟨Ext.refl _, by first | exact h90 | simpa using h90⟩
            · refine stepE rfl fun sdn sa sw sE sd sk => ?_
              have h82 : sa.eval (.tmp 82) = .bool (true) := sk.fact 5 82 rfl (sd 5 rfl)
              have h91 : sa.eval (.tmp 91) = .bool (true) := sk.fact 14 91 rfl (sd 14 rfl)
              exact Runs.bin rfl h82 h91 (by rfl) (bin_eqb _ _) ⟨Ext.refl _, congrArg Value.bool (by decide)⟩
            · refine stepE rfl fun sdn sa sw sE sd sk => ?_
              have h92 : sa.eval (.tmp 92) = .bool (true) := sk.fact 15 92 rfl (sd 15 rfl)
              exact Runs.move rfl h92 ⟨Ext.refl _, rfl⟩
            · refine stepY (j := 16) (d := 93) (b := true) rfl rfl rfl (fun v w h => h) fun sdn sa sw sE sd sk => ?_
              refine Runs.call (f := 15) (vs := []) rfl rfl rfl (by simp only [List.map_toArray, List.map_cons, List.map_nil] <;> rfl) (ent15 _ _) ((known26_any sw).mono ?_); rintro e w' ⟨rfl, hx⟩; exact ⟨_, rfl, hx, rfl⟩
            · refine stepE rfl fun sdn sa sw sE sd sk => ?_
              have h93 : sa.eval (.tmp 93) = .bool (true) := sk.fact 16 93 rfl (sd 16 rfl)
              have h94 : sa.eval (.tmp 94) = .bool (true) := sk.fact 17 94 rfl (sd 17 rfl)
              exact Runs.pick rfl h93 ⟨Ext.refl _, by first | exact h94 | simpa using h94⟩
            intro vals W15 hE15 hv15
            have e0 : vals 0 = .pointer (some ⟨g15, 0, none⟩) := hv15 0 (by omega) 77 rfl
            obtain ⟨A78, c78, e1, r78⟩ := hv15 1 (by omega) 78 rfl
            have e2 : vals 2 = .slice (A3) (j) (d3) := hv15 2 (by omega) 79 rfl
            have e3 : vals 3 = .slice (B) (m) (e') := hv15 3 (by omega) 80 rfl
            have e4 : vals 4 = .agg #[.int .i64 (((k : Nat) : Int)), .slice ((some ⟨gP, 0, none⟩)) (64) (dp), .slice (Q) (4) (dq)] := hv15 4 (by omega) 81 rfl
            have e5 : vals 5 = .bool (true) := hv15 5 (by omega) 82 rfl
            have e6 : vals 6 = .pointer (some ⟨g15, 0, none⟩) := hv15 6 (by omega) 83 rfl
            obtain ⟨A84, c84, e7, r84⟩ := hv15 7 (by omega) 84 rfl
            have e8 : vals 8 = .slice (B) (m) (e') := hv15 8 (by omega) 85 rfl
            have e9 : vals 9 = .agg #[.int .i64 (((k : Nat) : Int)), .slice ((some ⟨gP, 0, none⟩)) (64) (dp), .slice (Q) (4) (dq)] := hv15 9 (by omega) 86 rfl
            have e10 : vals 10 = .bool (true) := hv15 10 (by omega) 87 rfl
            have e11 : vals 11 = .bool (true) := hv15 11 (by omega) 88 rfl
            have e12 : vals 12 = .bool (false) := hv15 12 (by omega) 89 rfl
            have e13 : vals 13 = .bool (true) := hv15 13 (by omega) 90 rfl
            have e14 : vals 14 = .bool (true) := hv15 14 (by omega) 91 rfl
            have e15 : vals 15 = .bool (true) := hv15 15 (by omega) 92 rfl
            have e16 : vals 16 = .bool (true) := hv15 16 (by omega) 93 rfl
            have e17 : vals 17 = .bool (true) := hv15 17 (by omega) 94 rfl
            have e18 : vals 18 = .bool (true) := hv15 18 (by omega) 95 rfl
            simp only [putAll, Act.put, List.take_succ_cons, List.take_zero, List.drop_succ_cons, List.drop_zero, List.drop_nil, List.take_nil, Nat.reduceAdd, List.setIfInBounds_toArray, List.set_cons_succ, List.set_cons_zero, e0, e1, e2, e3, e4, e5, e6, e7, e8, e9, e10, e11, e12, e13, e14, e15, e16, e17, e18]
            clear hv15 e0 e1 e2 e3 e4 e5 e6 e7 e8 e9 e10 e11 e12 e13 e14 e15 e16 e17 e18
            go_wp2_with fail
            go_ret
            exact ⟨rfl, hEw.trans hE15⟩
          | false =>
            have Hv := Lib.hid hv
            clear hv
            refine par_ext (n := 19) (by kernel_rfl) [.is (.pointer (some ⟨g15, 0, none⟩)), .rk (32) (ownP S), .is (.slice (A3) (j) (d3)), .is (.slice (B) (m) (e')), .is (.agg #[.int .i64 (((k : Nat) : Int)), .slice ((some ⟨gP, 0, none⟩)) (64) (dp), .slice (Q) (4) (dq)]), .is (.bool (false)), .is (.pointer (some ⟨g15, 0, none⟩)), .rk (32) (ownP S), .is (.slice (B) (m) (e')), .is (.agg #[.int .i64 (((k : Nat) : Int)), .slice ((some ⟨gP, 0, none⟩)) (64) (dp), .slice (Q) (4) (dq)]), .is (.bool (false)), .is (.bool (false)), .is undef, .is undef, .is (.bool (false)), .is (.bool (true)), .is (.bool (true)), .is (.bool (true)), .is (.bool (true))] rfl ⟨?_, ?_, ?_, ?_, ?_, ?_, ?_, ?_, ?_, ?_, ?_, ?_, ?_, ?_, ?_, ?_, ?_, ?_, ?_, trivial⟩ ?_
            · refine stepE rfl fun sdn sa sw sE sd sk => ?_
              have h15 : sa.eval (.tmp 15) = .pointer (some ⟨g15, 0, none⟩) := sk.old 15 rfl
              exact Runs.move rfl h15 ⟨Ext.refl _, rfl⟩
            · refine stepE rfl fun sdn sa sw sE sd sk => ?_
              have h77 : sa.eval (.tmp 77) = .pointer (some ⟨g15, 0, none⟩) := sk.fact 0 77 rfl (sd 0 rfl)
              refine Runs.call (f := 27) (vs := [.pointer (some ⟨g15, 0, none⟩)]) rfl rfl rfl (by simp only [List.map_toArray, List.map_cons, List.map_nil, h77] <;> rfl) (ent27 _ _) ((rpublic_any _ _ _ sw (o15.ext sE)).mono ?_); rintro e w' ⟨A', c', rfl, own, hx⟩; exact ⟨_, rfl, hx, A', c', rfl, own⟩
            · refine stepE rfl fun sdn sa sw sE sd sk => ?_
              have h3 : sa.eval (.tmp 3) = .slice (A3) (j) (d3) := sk.old 3 rfl
              exact Runs.move rfl h3 ⟨Ext.refl _, rfl⟩
            · refine stepE rfl fun sdn sa sw sE sd sk => ?_
              have h2 : sa.eval (.tmp 2) = .slice (B) (m) (e') := sk.old 2 rfl
              exact Runs.move rfl h2 ⟨Ext.refl _, rfl⟩
            · refine stepE rfl fun sdn sa sw sE sd sk => ?_
              have h16 : sa.eval (.tmp 16) = .pointer (some ⟨g16, 0, none⟩) := sk.old 16 rfl
              exact Runs.load rfl h16 (load_part (hB16.ext sE) 0 (vs := [.int .i64 (((k : Nat) : Int)), .slice ((some ⟨gP, 0, none⟩)) (64) (dp), .slice (Q) (4) (dq)]) rfl Try.underlying42 rfl (by kernel_rfl)) ⟨Ext.refl _, rfl⟩
            · refine stepE rfl fun sdn sa sw sE sd sk => ?_
              obtain ⟨A78, c78, h78, r78⟩ := sk.fact 1 78 rfl (sd 1 rfl)
              have h79 : sa.eval (.tmp 79) = .slice (A3) (j) (d3) := sk.fact 2 79 rfl (sd 2 rfl)
              have h80 : sa.eval (.tmp 80) = .slice (B) (m) (e') := sk.fact 3 80 rfl (sd 3 rfl)
              have h81 : sa.eval (.tmp 81) = .agg #[.int .i64 (((k : Nat) : Int)), .slice ((some ⟨gP, 0, none⟩)) (64) (dp), .slice (Q) (4) (dq)] := sk.fact 4 81 rfl (sd 4 rfl)
              refine Runs.call (f := 26) (vs := [.slice (A78) (32) (c78), .slice (A3) (j) (d3), .slice (B) (m) (e'), .agg #[.int .i64 (((k : Nat) : Int)), .slice ((some ⟨gP, 0, none⟩)) (64) (dp), .slice (Q) (4) (dq)]]) rfl rfl rfl (by simp only [List.map_toArray, List.map_cons, List.map_nil, h78, h79, h80, h81] <;> rfl) (ent26 _ _) ((forged_any _ _ _ _ _ _ _ _ _ _ _ _ _ _ _ _ _ _ _ _ _ sw r78 (rH.ext sE) (rM.ext sE) (by omega) (rP.ext sE) (rQ.ext sE)).mono ?_); rintro e w' ⟨rfl, hx⟩; exact ⟨_, rfl, hx, congrArg Value.bool (by rw [Hv.out, Hb.out]; rfl)⟩
            · refine stepE rfl fun sdn sa sw sE sd sk => ?_
              have h15 : sa.eval (.tmp 15) = .pointer (some ⟨g15, 0, none⟩) := sk.old 15 rfl
              exact Runs.move rfl h15 ⟨Ext.refl _, rfl⟩
            · refine stepE rfl fun sdn sa sw sE sd sk => ?_
              have h83 : sa.eval (.tmp 83) = .pointer (some ⟨g15, 0, none⟩) := sk.fact 6 83 rfl (sd 6 rfl)
              refine Runs.call (f := 27) (vs := [.pointer (some ⟨g15, 0, none⟩)]) rfl rfl rfl (by simp only [List.map_toArray, List.map_cons, List.map_nil, h83] <;> rfl) (ent27 _ _) ((rpublic_any _ _ _ sw (o15.ext sE)).mono ?_); rintro e w' ⟨A', c', rfl, own, hx⟩; exact ⟨_, rfl, hx, A', c', rfl, own⟩
            · refine stepE rfl fun sdn sa sw sE sd sk => ?_
              have h2 : sa.eval (.tmp 2) = .slice (B) (m) (e') := sk.old 2 rfl
              exact Runs.move rfl h2 ⟨Ext.refl _, rfl⟩
            · refine stepE rfl fun sdn sa sw sE sd sk => ?_
              have h16 : sa.eval (.tmp 16) = .pointer (some ⟨g16, 0, none⟩) := sk.old 16 rfl
              exact Runs.load rfl h16 (load_part (hB16.ext sE) 0 (vs := [.int .i64 (((k : Nat) : Int)), .slice ((some ⟨gP, 0, none⟩)) (64) (dp), .slice (Q) (4) (dq)]) rfl Try.underlying42 rfl (by kernel_rfl)) ⟨Ext.refl _, rfl⟩
            · refine stepE rfl fun sdn sa sw sE sd sk => ?_
              obtain ⟨A84, c84, h84, r84⟩ := sk.fact 7 84 rfl (sd 7 rfl)
              have h85 : sa.eval (.tmp 85) = .slice (B) (m) (e') := sk.fact 8 85 rfl (sd 8 rfl)
              have h86 : sa.eval (.tmp 86) = .agg #[.int .i64 (((k : Nat) : Int)), .slice ((some ⟨gP, 0, none⟩)) (64) (dp), .slice (Q) (4) (dq)] := sk.fact 9 86 rfl (sd 9 rfl)
              refine Runs.call (f := 28) (vs := [.slice (A84) (32) (c84), .slice (B) (m) (e'), .agg #[.int .i64 (((k : Nat) : Int)), .slice ((some ⟨gP, 0, none⟩)) (64) (dp), .slice (Q) (4) (dq)]]) rfl rfl rfl (by simp only [List.map_toArray, List.map_cons, List.map_nil, h84, h85, h86] <;> rfl) (ent28 _ _) ((rverify_len _ _ _ _ _ _ _ _ _ _ _ _ _ _ _ _ _ sw r84 (rM.ext sE) lenV (rP.ext sE) (rQ.ext sE)).mono ?_); rintro e w' ⟨rfl, hx⟩; exact ⟨_, rfl, hx, congrArg Value.bool (Hv.out)⟩
            · refine stepE rfl fun sdn sa sw sE sd sk => ?_
              have h87 : sa.eval (.tmp 87) = .bool (false) := sk.fact 10 87 rfl (sd 10 rfl)
              exact Runs.move rfl h87 ⟨Ext.refl _, rfl⟩
            · exact stepN (j := 11) (d := 88) (b := false) rfl rfl rfl (fun v w h => h) fun w => rfl
            · exact stepN (j := 11) (d := 88) (b := false) rfl rfl rfl (fun v w h => h) fun w => rfl
            · refine stepE rfl fun sdn sa sw sE sd sk => ?_
              have h88 : sa.eval (.tmp 88) = .bool (false) := sk.fact 11 88 rfl (sd 11 rfl)
              exact Runs.pick rfl h88 ⟨Ext.refl _, rfl⟩
            · refine stepE rfl fun sdn sa sw sE sd sk => ?_
              have h82 : sa.eval (.tmp 82) = .bool (false) := sk.fact 5 82 rfl (sd 5 rfl)
              have h91 : sa.eval (.tmp 91) = .bool (false) := sk.fact 14 91 rfl (sd 14 rfl)
              exact Runs.bin rfl h82 h91 (by rfl) (bin_eqb _ _) ⟨Ext.refl _, congrArg Value.bool (by decide)⟩
            · refine stepE rfl fun sdn sa sw sE sd sk => ?_
              have h92 : sa.eval (.tmp 92) = .bool (true) := sk.fact 15 92 rfl (sd 15 rfl)
              exact Runs.move rfl h92 ⟨Ext.refl _, rfl⟩
            · refine stepY (j := 16) (d := 93) (b := true) rfl rfl rfl (fun v w h => h) fun sdn sa sw sE sd sk => ?_
              refine Runs.call (f := 15) (vs := []) rfl rfl rfl (by simp only [List.map_toArray, List.map_cons, List.map_nil] <;> rfl) (ent15 _ _) ((known26_any sw).mono ?_); rintro e w' ⟨rfl, hx⟩; exact ⟨_, rfl, hx, rfl⟩
            · refine stepE rfl fun sdn sa sw sE sd sk => ?_
              have h93 : sa.eval (.tmp 93) = .bool (true) := sk.fact 16 93 rfl (sd 16 rfl)
              have h94 : sa.eval (.tmp 94) = .bool (true) := sk.fact 17 94 rfl (sd 17 rfl)
              exact Runs.pick rfl h93 ⟨Ext.refl _, by first | exact h94 | simpa using h94⟩
            intro vals W15 hE15 hv15
            have e0 : vals 0 = .pointer (some ⟨g15, 0, none⟩) := hv15 0 (by omega) 77 rfl
            obtain ⟨A78, c78, e1, r78⟩ := hv15 1 (by omega) 78 rfl
            have e2 : vals 2 = .slice (A3) (j) (d3) := hv15 2 (by omega) 79 rfl
            have e3 : vals 3 = .slice (B) (m) (e') := hv15 3 (by omega) 80 rfl
            have e4 : vals 4 = .agg #[.int .i64 (((k : Nat) : Int)), .slice ((some ⟨gP, 0, none⟩)) (64) (dp), .slice (Q) (4) (dq)] := hv15 4 (by omega) 81 rfl
            have e5 : vals 5 = .bool (false) := hv15 5 (by omega) 82 rfl
            have e6 : vals 6 = .pointer (some ⟨g15, 0, none⟩) := hv15 6 (by omega) 83 rfl
            obtain ⟨A84, c84, e7, r84⟩ := hv15 7 (by omega) 84 rfl
            have e8 : vals 8 = .slice (B) (m) (e') := hv15 8 (by omega) 85 rfl
            have e9 : vals 9 = .agg #[.int .i64 (((k : Nat) : Int)), .slice ((some ⟨gP, 0, none⟩)) (64) (dp), .slice (Q) (4) (dq)] := hv15 9 (by omega) 86 rfl
            have e10 : vals 10 = .bool (false) := hv15 10 (by omega) 87 rfl
            have e11 : vals 11 = .bool (false) := hv15 11 (by omega) 88 rfl
            have e14 : vals 14 = .bool (false) := hv15 14 (by omega) 91 rfl
            have e15 : vals 15 = .bool (true) := hv15 15 (by omega) 92 rfl
            have e16 : vals 16 = .bool (true) := hv15 16 (by omega) 93 rfl
            have e17 : vals 17 = .bool (true) := hv15 17 (by omega) 94 rfl
            have e18 : vals 18 = .bool (true) := hv15 18 (by omega) 95 rfl
            simp only [putAll, Act.put, List.take_succ_cons, List.take_zero, List.drop_succ_cons, List.drop_zero, List.drop_nil, List.take_nil, Nat.reduceAdd, List.setIfInBounds_toArray, List.set_cons_succ, List.set_cons_zero, e0, e1, e2, e3, e4, e5, e6, e7, e8, e9, e10, e11, e14, e15, e16, e17, e18]
            clear hv15 e0 e1 e2 e3 e4 e5 e6 e7 e8 e9 e10 e11 e14 e15 e16 e17 e18
            go_wp2_with fail
            go_ret
            exact ⟨rfl, hEw.trans hE15⟩

end Go.Proofs.Ytkndgpjamijbbaa

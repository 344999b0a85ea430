/-
  cosign.Put, walked. cosign.Get, walked. keep.Few, walked; a slice is stored in a row of the call's own. CosignTells, walked (under way).
-/
import Derived.Test.YthggfbpdhkpkjaaLawPuts11Q33
import Derived.Test.YthggfbpdhkpkjaaLawPuts11Q23
import Derived.Test.YthggfbpdhkpkjaaLawPuts11Q21
import Derived.Test.YthggfbpdhkpkjaaLawPuts11Q27
import Derived.Test.YthggfbpdhkpkjaaLawPuts11Q24
import Derived.Test.YthggfbpdhkpkjaaLawPuts11Q37
import Derived.Test.YthggfbpdhkpkjaaLawPuts11Q15
namespace Go.Proofs.Ythggfbpdhkpkjaa
set_option maxRecDepth 100000
open Go Go.RowKit
noncomputable def kOK (wn k : Int) (Ps Qs : List (List UInt8)) : Bool := decide (0 ≤ wn ∧ wn < 4) && rightB k Ps Qs
noncomputable def kL (wn k : Int) (Ps Qs : List (List UInt8)) : List UInt8 := if kOK wn k Ps Qs = true then [UInt8.ofNat wn.toNat] ++ encS k Ps Qs else []
theorem kL_yes {wn k : Int} {Ps Qs : List (List UInt8)} (h : kOK wn k Ps Qs = true) : kL wn k Ps Qs = [UInt8.ofNat wn.toNat] ++ encS k Ps Qs := by unfold kL; rw [if_pos h]
theorem kL_no {wn k : Int} {Ps Qs : List (List UInt8)} (h : kOK wn k Ps Qs = false) : kL wn k Ps Qs = [] := by unfold kL; rw [h]; rfl
set_option maxHeartbeats 4000000 in
theorem kput_any (wI w : World) (p n0 c0 : Nat) (A0 : Option Addr) (X0 : List UInt8) (P Q : Option Addr) (np cp nq cq : Nat) (wn k : Int) (PS QS : List (List UInt8)) (hEI : Ext wI w) (hW : Wtr w wI.heap.size p A0 n0 c0 X0) (hn : n0 ≤ 1000000) (rP : RBB w P np cp PS) (rQ : RBB w Q nq cq QS) :
    Calls Try.prog 58 #[.pointer (some ⟨p, 0, none⟩), .agg #[.int .i64 wn, .int .i64 k, .slice P np cp, .slice Q nq cq]] w fun e w' => e = .returned (.bool (kOK wn k PS QS)) ∧ WP wI w p A0 (n0 + (kL wn k PS QS).length) (X0 ++ kL wn k PS QS) w' := by
  have hE := Ext.new w (.cells #[.int .i64 wn, .int .i64 k, .slice P np cp, .slice Q nq cq] 69)
  have hB := Blk.new w 69 #[.int .i64 wn, .int .i64 k, .slice P np cp, .slice Q nq cq]
  have hpw := hW.lt_
  go_enter Try.func58, Try.ntmps58
  go_wp2_with fail
  refine (sencode_any k P Q np cp nq cq PS QS _ (rP.ext hE) (rQ.ext hE)).mono ?_
  rintro e w2 ⟨hyes, hno, hE2⟩
  replace hB := hB.ext hE2
  replace hE := hE.trans hE2
  have hsz := (Ext.new w (.cells #[.int .i64 wn, .int .i64 k, .slice P np cp, .slice Q nq cq] 69)).size
  clear hE2 rP rQ
  cases hb : rightB k PS QS with
  | false =>
    obtain rfl := hno hb
    have hv : kOK wn k PS QS = false := by unfold kOK; rw [hb]; simp
    have hl : kL wn k PS QS = [] := kL_no hv
    have Hv := Lib.hid hv
    have Hl := Lib.hid hl
    clear hyes hno hb hv hl
    go_wp2_with fail
    go_ret
    rw [Hv.out, Hl.out]
    exact ⟨rfl, by simpa using WP.of_ext hW hE⟩
  | true =>
    obtain ⟨G, dg, rfl, own⟩ := hyes hb
    clear hyes hno
    have y0 := hB.cell (i := 0) (v := .int .i64 wn) rfl
    have Hb := Lib.hid hb
    clear hb
    go_wp2_with fail
    refine (cwit_any wn w2).mono ?_
    rintro e w3 ⟨rfl, rfl⟩
    by_cases hj : 0 ≤ wn ∧ wn < 4
    · rw [decide_eq_true hj]
      obtain ⟨j, rfl⟩ : ∃ j : Nat, wn = (j : Int) := ⟨wn.toNat, by omega⟩
      have hv : kOK (j : Int) k PS QS = true := by unfold kOK; rw [decide_eq_true hj, Hb.out]; rfl
      have hl := kL_yes hv
      rw [Int.toNat_natCast] at hl
      have Hl2 := own.len
      have hlen : ([UInt8.ofNat j] ++ encS k PS QS).length = 1 + 2180 := by
        simp only [List.length_append, List.length_singleton, Hl2]
      have Hlen := Lib.hid hlen
      have Hv := Lib.hid hv
      have Hl := Lib.hid hl
      have Happ := Lib.hid (show X0 ++ ([UInt8.ofNat j] ++ encS k PS QS) = X0 ++ [UInt8.ofNat j] ++ encS k PS QS by simp only [List.append_assoc])
      have hck := fun w' => conv_i64_u8 (P := Try.prog) (w := w') Try.underlying3 Try.underlying5 j
      clear hv hl hlen Hl2 Hb hj
      have hW3 := hW.ext_ hE
      have hEI3 := hEI.trans hE
      have hgs := hB.lt
      have hWn := wbyte_any wI w3 p n0 c0 A0 X0 (UInt8.ofNat j) hEI3 hW3 (by omega)
      have HWn := Lib.hid hWn
      clear hWn
      go_wp2_with fail
      refine HWn.out.mono ?_
      rintro e w4 ⟨rfl, A4, c4, hW4, hC4, hL4⟩
      have rG := own.rb
      have haG : Away G 2180 p A0 := fun _ q hq => by have := (own.lt hq).1; exact ⟨by omega, fun e => by have := hpw.2 _ e; omega⟩
      have rG4 := rG.chg hC4 haG
      have hEI4 := hW3.chg_ext hEI3 hC4
      have hWn := wraw_any wI w4 p (n0 + 1) c4 2180 dg A4 G (X0 ++ [UInt8.ofNat j]) (encS k PS QS) hEI4 hW4 rG4 (by omega)
      have HWs := Lib.hid hWn
      clear hWn HWn hB rG y0 hck
      go_wp2_with fail
      refine HWs.out.mono ?_
      rintro e w6 ⟨rfl, k6⟩
      go_wp2_with fail
      go_ret
      rw [Hv.out, Hl.out, Hlen.out, Happ.out]
      refine ⟨rfl, ?_⟩
      have k4 := k6.trans hW4 hC4 hL4
      exact WP.pre hE (by simpa [Nat.add_assoc] using k4)
    · rw [decide_eq_false hj]
      have hv : kOK wn k PS QS = false := by unfold kOK; rw [decide_eq_false hj]; rfl
      have hl : kL wn k PS QS = [] := kL_no hv
      have Hv := Lib.hid hv
      have Hl := Lib.hid hl
      clear hv hl hj
      go_wp2_with fail
      go_ret
      rw [Hv.out, Hl.out]
      exact ⟨rfl, by simpa using WP.of_ext hW hE⟩
end Go.Proofs.Ythggfbpdhkpkjaa
namespace Go.Proofs.Ythggfbpdhkpkjaa
set_option maxRecDepth 100000
open Go Go.RowKit
/-- what is read of a reader's bytes as a cosignature -/
def hS1 (L : List UInt8) (bad : Bool) : List UInt8 × Bool := (rtake L bad 1).2
def hS2 (L : List UInt8) (bad : Bool) : List UInt8 × Bool := (rtake (hS1 L bad).1 (hS1 L bad).2 2180).2
def hN (L : List UInt8) (bad : Bool) : Int := u8i (beNum (rtake L bad 1).1).toUInt8
def hY (L : List UInt8) (bad : Bool) : List UInt8 := (rtake (hS1 L bad).1 (hS1 L bad).2 2180).1
noncomputable def hOK (L : List UInt8) (bad : Bool) : Bool := decOK5 (hY L bad) && decide (0 ≤ hN L bad ∧ hN L bad < 4)
theorem hN_is (L : List UInt8) (bad : Bool) : hN L bad = u32i (beNum (rtake L bad 1).1) := by
  have hl := rtake_len L bad 1
  unfold hN
  generalize (rtake L bad 1).1 = l at *
  match l with
  | [] => rfl
  | [b] =>
    have e : beNum [b] = b.toUInt32 := by
      unfold beNum
      simp only [List.foldl_cons, List.foldl_nil]
      rw [show shl 0 8 = 0 from by decide]
      simp
    rw [e]
    unfold u8i u32i
    simp
  | _ :: _ :: _ => simp at hl
theorem hOK_iff (L : List UInt8) (bad : Bool) : hOK L bad = true ↔ (hS2 L bad).2 = false ∧ refOK (hY L bad) ∧ hN L bad < 4 := by
  unfold hOK
  rw [Bool.and_eq_true, decOK5_iff, decide_eq_true_eq]
  constructor
  · rintro ⟨h1, h2⟩
    refine ⟨?_, h1, h2.2⟩
    cases hb : (hS2 L bad).2 with
    | false => rfl
    | true =>
      have h3 : hY L bad = [] := rtake_none (z := 2180) hb
      have h4 := h1.1
      rw [h3] at h4
      cases h4
  · rintro ⟨h1, h2, h3⟩
    refine ⟨h2, ?_, h3⟩
    unfold hN u8i
    omega
theorem RdrS.set4 {w : World} {base q : Nat} {L : List UInt8} {bad : Bool} (h : RdrS w base q L bad) {g : Nat} {t : TypeId} (ht : t ≠ 115) {x k : Int} {P Q : Option Addr} {np cp nq cq : Nat} (hB : Blk w g t (cosC x k P np cp Q nq cq))
    (x' k' : Int) (P1 Q1 : Option Addr) (np1 cp1 nq1 cq1 : Nat) : RdrS ((((w.setCell ⟨g, 0, none⟩ (.int .i64 x')).setCell ⟨g, 1, none⟩ (.int .i64 k')).setCell ⟨g, 2, none⟩ (.slice P1 np1 cp1)).setCell ⟨g, 3, none⟩ (.slice Q1 nq1 cq1)) base q L bad := by
  have b0 : Blk (w.setCell ⟨g, 0, none⟩ (.int .i64 x')) g t (cosC x' k P np cp Q nq cq) := hB.set 0 _
  have b1 : Blk _ g t (cosC x' k' P np cp Q nq cq) := b0.set 1 (.int .i64 k')
  have b2 : Blk _ g t (cosC x' k' P1 np1 cp1 Q nq cq) := b1.set 2 (.slice P1 np1 cp1)
  exact (((h.away hB ht (cos_no _ _ _ _ _ _ _ _) (grown_set w ⟨g, 0, none⟩ (.int .i64 x'))).away b0 ht (cos_no _ _ _ _ _ _ _ _) (grown_set _ ⟨g, 1, none⟩ (.int .i64 k'))).away b1 ht (cos_no _ _ _ _ _ _ _ _) (grown_set _ ⟨g, 2, none⟩ (.slice P1 np1 cp1))).away b2 ht (cos_no _ _ _ _ _ _ _ _) (grown_set _ ⟨g, 3, none⟩ (.slice Q1 nq1 cq1))
theorem grown4 {a w : World} {row : Option Nat} {g : Nat} (h : a.grownBy w row) (hg : a.heap.size ≤ g) (u0 u1 u2 u3 : Value) :
    a.grownBy ((((w.setCell ⟨g, 0, none⟩ u0).setCell ⟨g, 1, none⟩ u1).setCell ⟨g, 2, none⟩ u2).setCell ⟨g, 3, none⟩ u3) row :=
  grown_new (p := ⟨g, 3, none⟩) (grown_new (p := ⟨g, 2, none⟩) (grown_new (p := ⟨g, 1, none⟩) (grown_new (p := ⟨g, 0, none⟩) h hg u0) hg u1) hg u2) hg u3
set_option maxHeartbeats 8000000 in
theorem kget_any (w : World) (base q : Nat) (L : List UInt8) (bad : Bool) (hR : RdrS w base q L bad) :
    Calls Try.prog 60 #[.pointer (some ⟨q, 0, none⟩)] w fun e w' =>
      (hOK L bad = true → ∃ P d1 Q d2, e = .returned (.tuple #[.agg #[.int .i64 (hN L bad), .int .i64 (decX (hY L bad)), .slice P 64 d1, .slice Q 4 d2], .bool true]) ∧ RBB w' P 64 d1 (decP (hY L bad)) ∧ RBB w' Q 4 d2 (decQ (hY L bad))) ∧
      (hOK L bad = false → e = .returned (.tuple #[.agg #[.int .i64 0, .int .i64 0, .slice none 0 0, .slice none 0 0], .bool false])) ∧
      RdrS w' base q (hS2 L bad).1 (hS2 L bad).2 ∧ w.grownBy w' (some q) := by
  have hcx : ∀ w', (convert 5 3 (.int .u8 (u8i (beNum (rtake L bad 1).1).toUInt8))).run Try.prog w' = .ok (.int .i64 (hN L bad)) w' := fun w' => conv_u8_i64' (P := Try.prog) (w := w') Try.underlying5 Try.underlying3 (beNum (rtake L bad 1).1).toUInt8
  have hqlt := hR.lt_
  have hE0 := Ext.new w (.cells #[.int .i64 0, .int .i64 0, .slice none 0 0, .slice none 0 0] 69)
  have hB0 := Blk.new w 69 #[.int .i64 0, .int .i64 0, .slice none 0 0, .slice none 0 0]
  have hG0 := hE0.grownBy (some q)
  have hR0 := hR.later hE0
  have hok : hOK L bad = (decOK5 (hY L bad) && decide (0 ≤ hN L bad ∧ hN L bad < 4)) := rfl
  have Hok := Lib.hid hok
  clear hR hE0 hok
  go_enter Try.func60, Try.ntmps60
  go_wp2_with fail
  generalize w.alloc (.cells #[.int .i64 0, .int .i64 0, .slice none 0 0, .slice none 0 0] 69) = w0 at *
  refine (rbyte_any w0 base q L bad hR0).mono ?_
  rintro e w1 ⟨rfl, hR1, hG1⟩
  have hqn : (some w.heap.size : Option Nat) ≠ some q := by intro e; injection e with e; omega
  have hB1 := hB0.grown hG1 hqn
  replace hG1 := hG0.trans hG1
  replace hR1 : RdrS w1 base q (hS1 L bad).1 (hS1 L bad).2 := hR1
  clear hR0 hB0 hG0
  go_wp2_with fail
  clear hcx
  generalize hx : hN L bad = x at *
  have Hx := Lib.hid hx
  clear hx
  refine (rraw_any w1 base q _ _ 2180 hR1 (by omega) (by omega)).mono ?_
  rintro e w4 ⟨⟨Y, my, dy, rfl, ownY⟩, hR4, hG4⟩
  have hmy : my ≤ 2180 := by have h1 := ownY.len; have h2 := rtake_len (hS1 L bad).1 (hS1 L bad).2 2180; rw [h1] at h2; omega
  replace hB1 := hB1.grown hG4 hqn
  have hG2 := hG1.trans hG4
  replace hR4 : RdrS w4 base q (hS2 L bad).1 (hS2 L bad).2 := hR4
  replace ownY : OB w4 w1.heap.size Y my dy (hY L bad) := ownY
  generalize hs2 : hS2 L bad = s2 at *
  have Hs2 := Lib.hid hs2
  clear hs2 hR1 hG1 hG4
  generalize hYL : hY L bad = YL at *
  have HYL := Lib.hid hYL
  clear hYL
  go_wp2_with fail
  refine (sdecode_any Y my dy YL w4 ownY.rb (by omega)).mono ?_
  rintro e w5 ⟨hyes, hno, hE5⟩
  replace hB1 := hB1.ext hE5
  replace hR4 := hR4.later hE5
  replace hG2 := hG2.trans (hE5.grownBy _)
  clear hE5 ownY hqn hqlt
  cases hd : decOK5 YL with
  | false =>
    obtain rfl := hno hd
    have hEn := Ext.new w5 (.cells #[.int .i64 0, .slice none 0 0, .slice none 0 0] 39)
    replace hB1 := hB1.ext hEn
    replace hR4 := hR4.later hEn
    replace hG2 := hG2.trans (hEn.grownBy _)
    rw [hd, Bool.false_and] at Hok
    clear hyes hno hEn hd
    have fhB10 := hB1.frozen 0
    have fhB11 := hB1.frozen 1
    have fhB12 := hB1.frozen 2
    have fhB13 := hB1.frozen 3
    have xhB10 := hB1.cell (i := 0) rfl
    have xhB11 := hB1.cell (i := 1) rfl
    have xhB12 := hB1.cell (i := 2) rfl
    have xhB13 := hB1.cell (i := 3) rfl
    go_wp2_with fail
    refine bodyPost_ret (results_sig rfl _ _ w.heap.size _ _ _ rfl (setall4 hB1 _ _ _ _) Try.underlying69 rfl rfl) rfl ?_
    rw [Hx.out, Hs2.out, HYL.out]
    exact ⟨fun h => absurd (Hok.out.symm.trans h) (by decide), fun _ => rfl, hR4.set4 (by decide) hB1 _ _ _ _ _ _ _ _, grown4 hG2 (Nat.le_refl _) _ _ _ _⟩
  | true =>
    obtain ⟨P, d1, Q, d2, rfl, oP, oQ⟩ := hyes hd
    rw [hd, Bool.true_and] at Hok
    have hEn := Ext.new w5 (.cells #[.int .i64 (decX YL), .slice P 64 d1, .slice Q 4 d2] 39)
    have hB5 := Blk.new w5 39 #[.int .i64 (decX YL), .slice P 64 d1, .slice Q 4 d2]
    have rP := oP.obc.rbb
    have rQ := oQ.obc.rbb
    replace hB1 := hB1.ext hEn
    replace hR4 := hR4.later hEn
    replace rP := rP.ext hEn
    replace rQ := rQ.ext hEn
    replace hG2 := hG2.trans (hEn.grownBy _)
    clear hyes hno hEn hd oP oQ
    obtain ⟨w6, hw6⟩ : ∃ w6, w6 = w5.alloc (.cells #[.int .i64 (decX YL), .slice P 64 d1, .slice Q 4 d2] 39) := ⟨_, rfl⟩
    rw [← hw6] at hB1 hR4 rP rQ hG2 hB5
    go_wp2_with fail
    rw [← hw6]
    clear hw6
    generalize w5.heap.size = g5 at *
    refine (cwit_any x w6).mono ?_
    rintro e w7 ⟨rfl, rfl⟩
    by_cases hj : 0 ≤ x ∧ x < 4
    · rw [decide_eq_true hj] at Hok ⊢
      clear hj
      have z0 := hB5.cell (i := 0) (v := .int .i64 (decX YL)) rfl
      have z1 := hB5.cell (i := 1) (v := .slice P 64 d1) rfl
      have z2 := hB5.cell (i := 2) (v := .slice Q 4 d2) rfl
      have fhB10 := hB1.frozen 0
      have fhB11 := hB1.frozen 1
      have fhB12 := hB1.frozen 2
      have fhB13 := hB1.frozen 3
      have xhB10 := hB1.cell (i := 0) rfl
      have xhB11 := hB1.cell (i := 1) rfl
      have xhB12 := hB1.cell (i := 2) rfl
      have xhB13 := hB1.cell (i := 3) rfl
      go_wp2_with fail
      refine bodyPost_ret (results_sig rfl _ _ w.heap.size _ _ _ rfl (setall4 hB1 _ _ _ _) Try.underlying69 rfl rfl) rfl ?_
      rw [Hx.out, Hs2.out, HYL.out]
      exact ⟨fun _ => ⟨P, d1, Q, d2, rfl, rP.set4 (by omega) hB1 _ _ _ _ _ _ _ _, rQ.set4 (by omega) hB1 _ _ _ _ _ _ _ _⟩, fun h => absurd (Hok.out.symm.trans h) (by decide), hR4.set4 (by decide) hB1 _ _ _ _ _ _ _ _, grown4 hG2 (Nat.le_refl _) _ _ _ _⟩
    · rw [decide_eq_false hj] at Hok ⊢
      clear hj rP rQ hB5
      have fhB10 := hB1.frozen 0
      have fhB11 := hB1.frozen 1
      have fhB12 := hB1.frozen 2
      have fhB13 := hB1.frozen 3
      have xhB10 := hB1.cell (i := 0) rfl
      have xhB11 := hB1.cell (i := 1) rfl
      have xhB12 := hB1.cell (i := 2) rfl
      have xhB13 := hB1.cell (i := 3) rfl
      go_wp2_with fail
      refine bodyPost_ret (results_sig rfl _ _ w.heap.size _ _ _ rfl (setall4 hB1 _ _ _ _) Try.underlying69 rfl rfl) rfl ?_
      rw [Hx.out, Hs2.out, HYL.out]
      exact ⟨fun h => absurd (Hok.out.symm.trans h) (by decide), fun _ => rfl, hR4.set4 (by decide) hB1 _ _ _ _ _ _ _ _, grown4 hG2 (Nat.le_refl _) _ _ _ _⟩
end Go.Proofs.Ythggfbpdhkpkjaa
namespace Go.Proofs.Ythggfbpdhkpkjaa
set_option maxRecDepth 100000
open Go Go.RowKit
theorem OBC.store {w a : World} {base n c g z y : Nat} {E : Option Addr} {Ls : List (List UInt8)} {Y : List UInt8} (h : OBC w base (some ⟨g, 0, none⟩) n c Ls) (hE : RB w E z y Y) (hne : 0 < z → blk E ≠ some g) (i : Nat) (hi : i < n) (ha : Ext a w) (hab : a.heap.size ≤ base) :
    OBC (w.setCell ⟨g, i, none⟩ (.slice E z y)) base (some ⟨g, 0, none⟩) n c (Ls.set i Y) ∧ Ext a (w.setCell ⟨g, i, none⟩ (.slice E z y)) := by
  have hlt := h.lt (k := g) rfl
  obtain ⟨vs, h1, h2, h3⟩ := h
  have hvl : vs.length = n := by have := h1.1; omega
  have s := World.ownsRow.stored h1 i (.slice E z y)
  refine ⟨⟨vs.set i (.slice E z y), s.1, by simp [h2], fun j hj => ?_⟩, ha.then_grown s.2 (by intro k hk; cases hk; omega)⟩
  rw [lb_set (by omega)]
  by_cases hji : j = i
  · subst hji
    rw [if_pos rfl]
    exact ⟨E, z, y, by simp [hvl, hj], hE.grown s.2 hne, hne⟩
  · rw [if_neg hji]
    obtain ⟨B, m, d, h4, h5, h6⟩ := h3 j hj
    exact ⟨B, m, d, by rw [List.getElem?_set_ne (Ne.symm hji)]; exact h4, h5.grown s.2 h6, h6⟩
end Go.Proofs.Ythggfbpdhkpkjaa
namespace Go.Proofs.Ythggfbpdhkpkjaa
set_option maxRecDepth 100000
open Go Go.RowKit
theorem within_fin2 {x lo hi r : Int} (h0 : -1000 ≤ lo) (h1 : lo ≤ hi) (h2 : hi ≤ 140737488355328) (hout : ¬ (lo ≤ x ∧ x ≤ hi))
    (hr : (0 ≤ x.tmod (hi - lo + 1) → r = lo + x.tmod (hi - lo + 1)) ∧ (¬ 0 ≤ x.tmod (hi - lo + 1) → r = lo + (x.tmod (hi - lo + 1) + hi - lo + 1))) : r = within x lo hi := by
  obtain ⟨e, e1, e2⟩ := tmod_is x (hi - lo + 1) (by omega)
  unfold within
  rw [if_neg hout, e]
  by_cases h : 0 ≤ x.tmod (hi - lo + 1)
  · rw [if_pos h, hr.1 h]
  · rw [if_neg h, hr.2 h]; omega
set_option maxHeartbeats 1000000 in
theorem within_neg (x lo hi : Int) (w : World) (hx0 : -9223372036854775808 ≤ x) (hx1 : x ≤ 9223372036854775807) (h0 : -1000 ≤ lo) (h1 : lo ≤ hi) (h2 : hi ≤ 140737488355328) :
    Calls Try.prog 15 #[.int .i64 x, .int .i64 lo, .int .i64 hi] w fun e w' => e = .returned (.int .i64 (within x lo hi)) ∧ w = w' := by
  by_cases a1 : lo ≤ x
  · have d1 : decide (lo ≤ x) = true := by simpa using a1
    by_cases a2 : x ≤ hi
    · have d2 : decide (x ≤ hi) = true := by simpa using a2
      have hw : within x lo hi = x := by unfold within; rw [if_pos ⟨a1, a2⟩]
      rw [hw]
      go_enter Try.func15, Try.ntmps15
      go_wp2_with fail
      go_ret
      exact ⟨rfl, rfl⟩
    · have d2 : decide (x ≤ hi) = false := by simpa using a2
      have hout : ¬ (lo ≤ x ∧ x ≤ hi) := fun h => a2 h.2
      have Hout := Lib.hid hout
      clear hout a1 a2
      go_enter Try.func15, Try.ntmps15
      go_wp2_with fail
      all_goals
        go_ret
        refine ⟨?_, rfl⟩
        obtain ⟨_, e1, e2⟩ := tmod_is x (hi - lo + 1) (by omega)
        refine congrArg (fun z => Ending.returned (.int .i64 z)) (within_fin2 h0 h1 h2 Hout.out ⟨fun h => ?_, fun h => ?_⟩)
        · unfold wrap64; omega
        · unfold wrap64; omega
  · have d1 : decide (lo ≤ x) = false := by simpa using a1
    have hout : ¬ (lo ≤ x ∧ x ≤ hi) := fun h => a1 h.1
    have Hout := Lib.hid hout
    clear hout a1
    go_enter Try.func15, Try.ntmps15
    go_wp2_with fail
    all_goals
      go_ret
      refine ⟨?_, rfl⟩
      obtain ⟨_, e1, e2⟩ := tmod_is x (hi - lo + 1) (by omega)
      refine congrArg (fun z => Ending.returned (.int .i64 z)) (within_fin2 h0 h1 h2 Hout.out ⟨fun h => ?_, fun h => ?_⟩)
      · unfold wrap64; omega
      · unfold wrap64; omega

end Go.Proofs.Ythggfbpdhkpkjaa

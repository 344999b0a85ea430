/-
  cosign.Body, cosign.Verify; ref10's Policy and Cosigned, walked.
-/
import Derived.Test.YtkndgpjamijbbaaLawCom26Q21
namespace Go.Proofs.Ytkndgpjamijbbaa
set_option maxRecDepth 100000
open Go Go.RowKit
set_option maxHeartbeats 4000000 in
theorem cosbody_any (x : Int) (A : Option Addr) (n c : Nat) (R : List UInt8) (w : World) (hr : RB w A n c R) :
    Calls Try.prog 118 #[.agg #[.int .i64 x, .slice A n c]] w fun e w' =>
      (rightC x R = true → ∃ B d, e = .returned (.slice B 53 d) ∧ OB w' w.heap.size B 53 d (bodyC cosignL x R)) ∧ (rightC x R = false → e = .returned (.slice none 0 0)) ∧ Ext w w' := by
  have hck := fun w' => conv_key (P := Try.prog) (w := w') Try.underlying3 Try.underlying84 x
  have hE1 := Ext.new w (.cells #[.int .i64 x, .slice A n c] 54)
  have hB1 := Blk.new w 54 #[.int .i64 x, .slice A n c]
  go_enter Try.func118, Try.ntmps118
  go_wp2_with fail
  refine (cright_any x A n c R _ (hr.ext hE1)).mono ?_
  rintro e w2 ⟨rfl, hE2⟩
  have hE12 := hE1.trans hE2
  have hB2 := hB1.ext hE2
  clear hB1
  cases hc : rightC x R with
  | false =>
    go_wp2_with fail
    go_ret
    exact ⟨fun h => absurd (hc.symm.trans h) (by decide), fun _ => rfl, hE12⟩
  | true =>
    obtain ⟨_, _, h32⟩ := rightC_true hc
    obtain rfl : n = 32 := hr.len.symm.trans h32
    have Hc := Lib.hid hc
    clear hc h32
    go_wp2_with fail
    refine (wnew_any w2).mono ?_
    rintro e w3 ⟨p, rfl, hW3, hE3⟩
    have es : (#[.int .u8 98, .int .u8 114, .int .u8 111, .int .u8 97, .int .u8 100, .int .u8 115, .int .u8 104, .int .u8 101, .int .u8 101, .int .u8 116, .int .u8 32, .int .u8 99, .int .u8 111, .int .u8 115, .int .u8 105, .int .u8 103, .int .u8 110] : Array Value).size = 17 := rfl
    have s0 := Lib.run_convert_bytes_const (P := Try.prog) w3 22 5 #[.int .u8 98, .int .u8 114, .int .u8 111, .int .u8 97, .int .u8 100, .int .u8 115, .int .u8 104, .int .u8 101, .int .u8 101, .int .u8 116, .int .u8 32, .int .u8 99, .int .u8 111, .int .u8 115, .int .u8 105, .int .u8 103, .int .u8 110] 17 17 Try.underlying22 Try.underlying5
    rw [es] at s0
    obtain ⟨w4, hw4⟩ : ∃ w4, w4 = w3.alloc (.cells #[.int .u8 98, .int .u8 114, .int .u8 111, .int .u8 97, .int .u8 100, .int .u8 115, .int .u8 104, .int .u8 101, .int .u8 101, .int .u8 116, .int .u8 32, .int .u8 99, .int .u8 111, .int .u8 115, .int .u8 105, .int .u8 103, .int .u8 110] 5 (17, 17 + 1)) := ⟨_, rfl⟩
    have rT : RB w4 (some ⟨w3.heap.size, 0, none⟩) 17 17 cosignL := by rw [hw4]; exact RB.litM w3 cosignL (17, 17 + 1) (n := 17) rfl (small_maxLen (by decide))
    have hE4 : Ext w3 w4 := by rw [hw4]; exact Ext.new w3 _
    rw [← hw4] at s0
    clear hw4 es
    have hW4 : Wtr w4 w2.heap.size p none 0 0 [] := ⟨hW3.blk.ext hE4, hW3.own.ext hE4, hW3.ne, hW3.base⟩
    have hE24 := hE3.trans hE4
    have hB4 := hB2.ext hE24
    have y0 := hB4.cell (i := 0) (v := .int .i64 x) rfl
    have y1 := hB4.cell (i := 1) (v := .slice A 32 c) rfl
    clear hE3 hE4 hW3
    go_wp2_with fail
    refine (wraw_any w2 w4 p 0 0 17 17 none _ [] cosignL hE24 hW4 rT (by omega)).mono ?_
    rintro e w5 ⟨rfl, A5, c5, hW5, hC5, hL5⟩
    have hE5 := hW4.chg_ext hE24 hC5
    have hB5 := hB2.ext hE5
    have y0 := hB5.cell (i := 0) (v := .int .i64 x) rfl
    have y1 := hB5.cell (i := 1) (v := .slice A 32 c) rfl
    clear s0 rT hW4 hC5 hL5 hE24 hB4
    go_wp2_with fail
    refine (wnum_any w2 w5 p _ _ _ _ (keyW x) hE5 hW5 (by omega)).mono ?_
    rintro e w6 ⟨rfl, A6, c6, hW6, hC6, hL6⟩
    have hE6 := hW5.chg_ext hE5 hC6
    have hB6 := hB2.ext hE6
    have y0 := hB6.cell (i := 0) (v := .int .i64 x) rfl
    have y1 := hB6.cell (i := 1) (v := .slice A 32 c) rfl
    clear hW5 hC6 hL6 hE5 hB5
    go_wp2_with fail
    refine (wraw_any w2 w6 p _ _ 32 c _ A _ R hE6 hW6 (hr.ext (hE12.trans hE6)) (by omega)).mono ?_
    rintro e w7 ⟨rfl, A7, c7, hW7, hC7, hL7⟩
    have hE7 := hW6.chg_ext hE6 hC7
    have hW8 : Wtr w7 w2.heap.size p A7 53 c7 (bodyC cosignL x R) := by
      rw [bodyC_yes Hc.out]
      simpa [beBytes_four] using hW7
    clear hW6 hC7 hL7 hE6 hB6 hW7
    go_wp2_with fail
    refine (wdone_any w7 w2.heap.size p _ _ _ _ hW8 (by omega)).mono ?_
    rintro e w9 ⟨B, d, rfl, own9, hE9⟩
    go_wp2_with fail
    go_ret
    exact ⟨fun _ => ⟨B, d, rfl, own9.base (hE12.trans hE7).size⟩, fun h => absurd (Hc.out.symm.trans h) (by decide), (hE12.trans hE7).trans hE9⟩

theorem cosbody_53 (x : Int) (A : Option Addr) (n c : Nat) (R : List UInt8) (w : World) (hr : RB w A n c R) (hc : rightC x R = true) :
    Calls Try.prog 118 #[.agg #[.int .i64 x, .slice A n c]] w fun e w' => ∃ B d, e = .returned (.slice B 53 d) ∧ RB w' B 53 d (bodyC cosignL x R) ∧ Ext w w' := by
  refine (cosbody_any x A n c R w hr).mono ?_
  rintro e w' ⟨h1, _, hE⟩
  obtain ⟨B, d, rfl, own⟩ := h1 hc
  exact ⟨B, d, rfl, own.rb, hE⟩
noncomputable def infYB : TypeInfo := (Try.prog.info? 22).getD default
theorem infYB_eq : Try.prog.info? 22 = some infYB := by kernel_rfl
theorem infYB_size : infYB.size = 1 := by kernel_rfl
/-- does a cosignature verify? wn: whose it is said to be -/
noncomputable def cosB (LG : List UInt8) (Ws : List (List UInt8)) (q x : Int) (R : List UInt8) (wn k : Int) (Ps Qs : List (List UInt8)) : Bool :=
  polB LG Ws q && (rightC x R && (decide (0 ≤ wn ∧ wn < (Ws.length : Int)) && verB (lb Ws wn.toNat) (bodyC cosignL x R) k Ps Qs))
set_option maxHeartbeats 8000000 in
theorem cosverify_any (G A B P Q : Option Addr) (ng cg n c nb d np cp nq cq : Nat) (q x wn k : Int) (LG R : List UInt8) (Ws PS QS : List (List UInt8)) (w : World) (rG : RB w G ng cg LG) (rW : RBB w A n c Ws) (rR : RB w B nb d R) (rP : RBB w P np cp PS) (rQ : RBB w Q nq cq QS) :
    Calls Try.prog 95 #[.agg #[.slice G ng cg, .slice A n c, .int .i64 q], .agg #[.int .i64 x, .slice B nb d], .agg #[.int .i64 wn, .int .i64 k, .slice P np cp, .slice Q nq cq]] w fun e w' => e = .returned (.bool (cosB LG Ws q x R wn k PS QS)) ∧ Ext w w' := by
  have hEa := Ext.new w (.cells #[.slice G ng cg, .slice A n c, .int .i64 q] 52)
  have hB3 := Blk.new w 52 #[.slice G ng cg, .slice A n c, .int .i64 q]
  have hEn := Ext.new (w.alloc (.cells #[.slice G ng cg, .slice A n c, .int .i64 q] 52)) (.cells #[.int .i64 x, .slice B nb d] 54)
  have hB4 := Blk.new (w.alloc (.cells #[.slice G ng cg, .slice A n c, .int .i64 q] 52)) 54 #[.int .i64 x, .slice B nb d]
  rw [World.size_alloc] at hB4
  have hEm := Ext.new ((w.alloc (.cells #[.slice G ng cg, .slice A n c, .int .i64 q] 52)).alloc (.cells #[.int .i64 x, .slice B nb d] 54)) (.cells #[.int .i64 wn, .int .i64 k, .slice P np cp, .slice Q nq cq] 104)
  have hB5 := Blk.new ((w.alloc (.cells #[.slice G ng cg, .slice A n c, .int .i64 q] 52)).alloc (.cells #[.int .i64 x, .slice B nb d] 54)) 104 #[.int .i64 wn, .int .i64 k, .slice P np cp, .slice Q nq cq]
  rw [World.size_alloc, World.size_alloc] at hB5
  replace hB3 := (hB3.ext hEn).ext hEm
  replace hB4 := hB4.ext hEm
  replace hEa := (hEa.trans hEn).trans hEm
  replace rG := rG.ext hEa
  replace rW := rW.ext hEa
  replace rR := rR.ext hEa
  replace rP := rP.ext hEa
  replace rQ := rQ.ext hEa
  have hlw := rW.len
  have hcb : cosB LG Ws q x R wn k PS QS = (polB LG Ws q && (rightC x R && (decide (0 ≤ wn ∧ wn < (Ws.length : Int)) && verB (lb Ws wn.toNat) (bodyC cosignL x R) k PS QS))) := rfl
  rw [hlw] at hcb
  have Hcb := Lib.hid hcb
  have Hlw := Lib.hid hlw
  have hcap := rW.cap
  have hroom := rW.room
  unfold maxLen at hcap
  clear hEn hEm hcb hlw
  go_enter Try.func95, Try.ntmps95
  go_wp2_with fail
  generalize ((w.alloc (.cells #[.slice G ng cg, .slice A n c, .int .i64 q] 52)).alloc (.cells #[.int .i64 x, .slice B nb d] 54)).alloc (.cells #[.int .i64 wn, .int .i64 k, .slice P np cp, .slice Q nq cq] 104) = w1 at *
  generalize w.heap.size = g3 at *
  refine (cosright_any G A ng cg n c q LG Ws w1 rG rW).mono ?_
  rintro e w2 ⟨rfl, hE⟩
  replace rG := rG.ext hE
  replace rW := rW.ext hE
  replace rR := rR.ext hE
  replace rP := rP.ext hE
  replace rQ := rQ.ext hE
  replace hB3 := hB3.ext hE
  replace hB4 := hB4.ext hE
  replace hB5 := hB5.ext hE
  replace hEa := hEa.trans hE
  clear hE
  cases hpol : polB LG Ws q with
  | false =>
    have hv : cosB LG Ws q x R wn k PS QS = false := by rw [Hcb.out, hpol]; rfl
    have Hv := Lib.hid hv
    clear hpol hv
    go_wp2_with fail
    go_ret
    exact ⟨by rw [Hv.out]; rfl, hEa⟩
  | true =>
    rw [hpol] at Hcb
    clear hpol
    have y0 := hB4.cell (i := 0) (v := .int .i64 x) rfl
    have y1 := hB4.cell (i := 1) (v := .slice B nb d) rfl
    go_wp2_with fail
    refine (cright_any x B nb d R w2 rR).mono ?_
    rintro e w3 ⟨rfl, hE⟩
    replace rG := rG.ext hE
    replace rW := rW.ext hE
    replace rR := rR.ext hE
    replace rP := rP.ext hE
    replace rQ := rQ.ext hE
    replace hB3 := hB3.ext hE
    replace hB4 := hB4.ext hE
    replace hB5 := hB5.ext hE
    replace hEa := hEa.trans hE
    clear hE y0 y1
    cases hc : rightC x R with
    | false =>
      have hv : cosB LG Ws q x R wn k PS QS = false := by rw [Hcb.out, hc]; rfl
      have Hv := Lib.hid hv
      clear hc hv
      go_wp2_with fail
      go_ret
      exact ⟨by rw [Hv.out]; rfl, hEa⟩
    | true =>
      rw [hc] at Hcb
      have z0 := hB5.cell (i := 0) (v := .int .i64 wn) rfl
      have z1 := hB3.cell (i := 1) (v := .slice A n c) rfl
      by_cases hw0 : wn < 0
      · have hv : cosB LG Ws q x R wn k PS QS = false := by rw [Hcb.out]; simp; intros; omega
        have Hv := Lib.hid hv
        clear hc hv
        go_wp2_with fail
        go_ret
        exact ⟨by rw [Hv.out]; rfl, hEa⟩
      · by_cases hwn : (n : Int) ≤ wn
        · have hv : cosB LG Ws q x R wn k PS QS = false := by rw [Hcb.out]; simp; intros; omega
          have Hv := Lib.hid hv
          clear hc hv
          go_wp2_with fail
          go_ret
          exact ⟨by rw [Hv.out]; rfl, hEa⟩
        · obtain ⟨j, rfl⟩ : ∃ j : Nat, wn = (j : Int) := ⟨wn.toNat, by omega⟩
          have hjn : j < n := by omega
          have hv : cosB LG Ws q x R (j : Int) k PS QS = verB (lb Ws j) (bodyC cosignL x R) k PS QS := by
            rw [Hcb.out]
            have h9 : (0 : Int) ≤ (j : Int) ∧ (j : Int) < (n : Int) := ⟨by omega, by omega⟩
            simp only [h9, and_self, decide_true, Bool.true_and]
            rfl
          have Hv := Lib.hid hv
          obtain ⟨ad, rfl, hcl⟩ := rW.cells (by omega)
          obtain ⟨E, z, y, hcell, rE⟩ := hcl j hjn
          have Hc := Lib.hid hc
          clear hcl hv Hcb hc
          go_upto_region 3 with (fail)
          clear z0 z1
          have hc := Hc.out
          refine par_ext (n := 11) (by kernel_rfl) [.is (.pointer (some ⟨g3, 1, none⟩)), .is (.slice ((some ad)) (n) (c)), .is (.pointer (some ⟨g3 + 1 + 1, 0, none⟩)), .is (.int .i64 ((j : Int))), .is (.pointer (some (ad.add (j)))), .is (.slice (E) (z) (y)), .is (.agg #[.int .i64 (x), .slice (B) (nb) (d)]), .rk (53) (bodyC cosignL x R), .is (.pointer (some ⟨g3 + 1 + 1, 1, none⟩)), .is (.agg #[.int .i64 (k), .slice (P) (np) (cp), .slice (Q) (nq) (cq)]), .is (.bool (verB (lb Ws j) (bodyC cosignL x R) k PS QS))] rfl ⟨?_, ?_, ?_, ?_, ?_, ?_, ?_, ?_, ?_, ?_, ?_, trivial⟩ ?_
          · refine stepE rfl fun sdn sa sw sE sd sk => ?_
            have h3 : sa.eval (.tmp 3) = .pointer (some ⟨g3, 0, none⟩) := sk.old 3 rfl
            refine Runs.of_run (r := .pointer (some ⟨g3, 1, none⟩)) (w' := sw) ?_ ⟨Ext.refl _, rfl⟩
            unfold execOp
            simp only [h3]
            go_simp
          · refine stepE rfl fun sdn sa sw sE sd sk => ?_
            have h28 : sa.eval (.tmp 28) = .pointer (some ⟨g3, 1, none⟩) := sk.fact 0 28 rfl (sd 0 rfl)
            exact Runs.load rfl h28 (run_load1 Try.underlying23 rfl ((hB3.ext sE).cell (i := 1) rfl)) ⟨Ext.refl _, rfl⟩
          · refine stepE rfl fun sdn sa sw sE sd sk => ?_
            have h5 : sa.eval (.tmp 5) = .pointer (some ⟨g3 + 1 + 1, 0, none⟩) := sk.old 5 rfl
            refine Runs.of_run (r := .pointer (some ⟨g3 + 1 + 1, 0, none⟩)) (w' := sw) ?_ ⟨Ext.refl _, rfl⟩
            unfold execOp
            simp only [h5]
            go_simp
          · refine stepE rfl fun sdn sa sw sE sd sk => ?_
            have h30 : sa.eval (.tmp 30) = .pointer (some ⟨g3 + 1 + 1, 0, none⟩) := sk.fact 2 30 rfl (sd 2 rfl)
            exact Runs.load rfl h30 (run_load1 Try.underlying3 rfl ((hB5.ext sE).cell (i := 0) rfl)) ⟨Ext.refl _, rfl⟩
          · refine stepE rfl fun sdn sa sw sE sd sk => ?_
            have h29 : sa.eval (.tmp 29) = .slice ((some ad)) (n) (c) := sk.fact 1 29 rfl (sd 1 rfl)
            have h31 : sa.eval (.tmp 31) = .int .i64 ((j : Int)) := sk.fact 3 31 rfl (sd 3 rfl)
            exact Runs.idx rfl h29 h31 (run_idx_sl1 Try.underlying23 infYB_eq infYB_size (j) (by omega) (by omega)) ⟨Ext.refl _, rfl⟩
          · refine stepE rfl fun sdn sa sw sE sd sk => ?_
            have h32 : sa.eval (.tmp 32) = .pointer (some (ad.add (j))) := sk.fact 4 32 rfl (sd 4 rfl)
            exact Runs.load rfl h32 (run_load1 Try.underlying22 rfl (sE.cell hcell)) ⟨Ext.refl _, rfl⟩
          · refine stepE rfl fun sdn sa sw sE sd sk => ?_
            have h4 : sa.eval (.tmp 4) = .pointer (some ⟨g3 + 1, 0, none⟩) := sk.old 4 rfl
            exact Runs.load rfl h4 (load_part (hB4.ext sE) 0 (vs := [.int .i64 (x), .slice (B) (nb) (d)]) rfl Try.underlying54 rfl (by kernel_rfl)) ⟨Ext.refl _, rfl⟩
          · refine stepE rfl fun sdn sa sw sE sd sk => ?_
            have h34 : sa.eval (.tmp 34) = .agg #[.int .i64 (x), .slice (B) (nb) (d)] := sk.fact 6 34 rfl (sd 6 rfl)
            refine Runs.call (f := 118) (vs := [.agg #[.int .i64 (x), .slice (B) (nb) (d)]]) rfl rfl rfl (by simp only [List.map_toArray, List.map_cons, List.map_nil, h34] <;> rfl) (ent118 _ _) ((cosbody_53 _ _ _ _ _ sw (rR.ext sE) (hc)).mono ?_); rintro e w' ⟨A', c', rfl, own, hx⟩; exact ⟨_, rfl, hx, A', c', rfl, own⟩
          · refine stepE rfl fun sdn sa sw sE sd sk => ?_
            have h5 : sa.eval (.tmp 5) = .pointer (some ⟨g3 + 1 + 1, 0, none⟩) := sk.old 5 rfl
            refine Runs.of_run (r := .pointer (some ⟨g3 + 1 + 1, 1, none⟩)) (w' := sw) ?_ ⟨Ext.refl _, rfl⟩
            unfold execOp
            simp only [h5]
            go_simp
          · refine stepE rfl fun sdn sa sw sE sd sk => ?_
            have h36 : sa.eval (.tmp 36) = .pointer (some ⟨g3 + 1 + 1, 1, none⟩) := sk.fact 8 36 rfl (sd 8 rfl)
            exact Runs.load rfl h36 (load_part (hB5.ext sE) 1 (vs := [.int .i64 (k), .slice (P) (np) (cp), .slice (Q) (nq) (cq)]) rfl Try.underlying42 rfl (by kernel_rfl)) ⟨Ext.refl _, rfl⟩
          · refine stepE rfl fun sdn sa sw sE sd sk => ?_
            have h33 : sa.eval (.tmp 33) = .slice (E) (z) (y) := sk.fact 5 33 rfl (sd 5 rfl)
            obtain ⟨A35, c35, h35, r35⟩ := sk.fact 7 35 rfl (sd 7 rfl)
            have h37 : sa.eval (.tmp 37) = .agg #[.int .i64 (k), .slice (P) (np) (cp), .slice (Q) (nq) (cq)] := sk.fact 9 37 rfl (sd 9 rfl)
            refine Runs.call (f := 64) (vs := [.slice (E) (z) (y), .slice (A35) (53) (c35), .agg #[.int .i64 (k), .slice (P) (np) (cp), .slice (Q) (nq) (cq)]]) rfl rfl rfl (by simp only [List.map_toArray, List.map_cons, List.map_nil, h33, h35, h37] <;> rfl) (ent64 _ _) ((sverify_len _ _ _ _ _ _ _ _ _ _ _ _ _ _ _ _ _ sw (rE.ext sE) r35 lenV (rP.ext sE) (rQ.ext sE)).mono ?_); rintro e w' ⟨rfl, hx⟩; exact ⟨_, rfl, hx, rfl⟩
          intro vals W3 hE3 hv3
          have e0 : vals 0 = .pointer (some ⟨g3, 1, none⟩) := hv3 0 (by omega) 28 rfl
          have e1 : vals 1 = .slice ((some ad)) (n) (c) := hv3 1 (by omega) 29 rfl
          have e2 : vals 2 = .pointer (some ⟨g3 + 1 + 1, 0, none⟩) := hv3 2 (by omega) 30 rfl
          have e3 : vals 3 = .int .i64 ((j : Int)) := hv3 3 (by omega) 31 rfl
          have e4 : vals 4 = .pointer (some (ad.add (j))) := hv3 4 (by omega) 32 rfl
          have e5 : vals 5 = .slice (E) (z) (y) := hv3 5 (by omega) 33 rfl
          have e6 : vals 6 = .agg #[.int .i64 (x), .slice (B) (nb) (d)] := hv3 6 (by omega) 34 rfl
          obtain ⟨A35, c35, e7, r35⟩ := hv3 7 (by omega) 35 rfl
          have e8 : vals 8 = .pointer (some ⟨g3 + 1 + 1, 1, none⟩) := hv3 8 (by omega) 36 rfl
          have e9 : vals 9 = .agg #[.int .i64 (k), .slice (P) (np) (cp), .slice (Q) (nq) (cq)] := hv3 9 (by omega) 37 rfl
          have e10 : vals 10 = .bool (verB (lb Ws j) (bodyC cosignL x R) k PS QS) := hv3 10 (by omega) 38 rfl
          simp only [putAll, Act.put, List.take_succ_cons, List.take_zero, List.drop_succ_cons, List.drop_zero, List.drop_nil, List.take_nil, Nat.reduceAdd, List.setIfInBounds_toArray, List.set_cons_succ, List.set_cons_zero, e0, e1, e2, e3, e4, e5, e6, e7, e8, e9, e10]
          clear hv3 e0 e1 e2 e3 e4 e5 e6 e7 e8 e9 e10
          go_wp2_with fail
          go_ret
          exact ⟨by rw [Hv.out]; rfl, hEa.trans hE3⟩
end Go.Proofs.Ytkndgpjamijbbaa

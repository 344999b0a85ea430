/-
  cosign.Body, cosign.Verify; ref10's Policy and Cosigned, walked. cosign.count, Count, Met; ref10's Count, walked.
-/
import Derived.Test.YthggfbpdhkpkjaaLawPuts11Q29
namespace Go.Proofs.Ythggfbpdhkpkjaa
set_option maxRecDepth 100000
open Go Go.RowKit
set_option maxHeartbeats 4000000 in
theorem cosbody_any (x : Int) (A : Option Addr) (n c : Nat) (R : List UInt8) (w : World) (hr : RB w A n c R) :
    Calls Try.prog 45 #[.agg #[.int .i64 x, .slice A n c]] w fun e w' =>
      (rightC x R = true → ∃ B d, e = .returned (.slice B 53 d) ∧ OB w' w.heap.size B 53 d (bodyC cosignL x R)) ∧ (rightC x R = false → e = .returned (.slice none 0 0)) ∧ Ext w w' := by
  have hck := fun w' => conv_key (P := Try.prog) (w := w') Try.underlying3 Try.underlying101 x
  have hE1 := Ext.new w (.cells #[.int .i64 x, .slice A n c] 24)
  have hB1 := Blk.new w 24 #[.int .i64 x, .slice A n c]
  go_enter Try.func45, Try.ntmps45
  go_wp2_with fail
  refine (cright_any x A n c R _ (hr.ext hE1)).mono ?_
  rintro e w2 ⟨rfl, hE2⟩
  have hE12 := hE1.trans hE2
  have hB2 := hB1.ext hE2
  clear hB1
  cases hc : rightC x R with
  | false =>
    go_wp2_with fail
    go_ret
    exact ⟨fun h => absurd (hc.symm.trans h) (by decide), fun _ => rfl, hE12⟩
  | true =>
    obtain ⟨_, _, h32⟩ := rightC_true hc
    obtain rfl : n = 32 := hr.len.symm.trans h32
    have Hc := Lib.hid hc
    clear hc h32
    go_wp2_with fail
    refine (wnew_any w2).mono ?_
    rintro e w3 ⟨p, rfl, hW3, hE3⟩
    have es : (#[.int .u8 98, .int .u8 114, .int .u8 111, .int .u8 97, .int .u8 100, .int .u8 115, .int .u8 104, .int .u8 101, .int .u8 101, .int .u8 116, .int .u8 32, .int .u8 99, .int .u8 111, .int .u8 115, .int .u8 105, .int .u8 103, .int .u8 110] : Array Value).size = 17 := rfl
    have s0 := Lib.run_convert_bytes_const (P := Try.prog) w3 22 5 #[.int .u8 98, .int .u8 114, .int .u8 111, .int .u8 97, .int .u8 100, .int .u8 115, .int .u8 104, .int .u8 101, .int .u8 101, .int .u8 116, .int .u8 32, .int .u8 99, .int .u8 111, .int .u8 115, .int .u8 105, .int .u8 103, .int .u8 110] 17 17 Try.underlying22 Try.underlying5
    rw [es] at s0
    obtain ⟨w4, hw4⟩ : ∃ w4, w4 = w3.alloc (.cells #[.int .u8 98, .int .u8 114, .int .u8 111, .int .u8 97, .int .u8 100, .int .u8 115, .int .u8 104, .int .u8 101, .int .u8 101, .int .u8 116, .int .u8 32, .int .u8 99, .int .u8 111, .int .u8 115, .int .u8 105, .int .u8 103, .int .u8 110] 5 (17, 17 + 1)) := ⟨_, rfl⟩
    have rT : RB w4 (some ⟨w3.heap.size, 0, none⟩) 17 17 cosignL := by rw [hw4]; exact RB.litM w3 cosignL (17, 17 + 1) (n := 17) rfl (small_maxLen (by decide))
    have hE4 : Ext w3 w4 := by rw [hw4]; exact Ext.new w3 _
    rw [← hw4] at s0
    clear hw4 es
    have hW4 : Wtr w4 w2.heap.size p none 0 0 [] := ⟨hW3.blk.ext hE4, hW3.own.ext hE4, hW3.ne, hW3.base⟩
    have hE24 := hE3.trans hE4
    have hB4 := hB2.ext hE24
    have y0 := hB4.cell (i := 0) (v := .int .i64 x) rfl
    have y1 := hB4.cell (i := 1) (v := .slice A 32 c) rfl
    clear hE3 hE4 hW3
    go_wp2_with fail
    refine (wraw_any w2 w4 p 0 0 17 17 none _ [] cosignL hE24 hW4 rT (by omega)).mono ?_
    rintro e w5 ⟨rfl, A5, c5, hW5, hC5, hL5⟩
    have hE5 := hW4.chg_ext hE24 hC5
    have hB5 := hB2.ext hE5
    have y0 := hB5.cell (i := 0) (v := .int .i64 x) rfl
    have y1 := hB5.cell (i := 1) (v := .slice A 32 c) rfl
    clear s0 rT hW4 hC5 hL5 hE24 hB4
    go_wp2_with fail
    refine (wnum_any w2 w5 p _ _ _ _ (keyW x) hE5 hW5 (by omega)).mono ?_
    rintro e w6 ⟨rfl, A6, c6, hW6, hC6, hL6⟩
    have hE6 := hW5.chg_ext hE5 hC6
    have hB6 := hB2.ext hE6
    have y0 := hB6.cell (i := 0) (v := .int .i64 x) rfl
    have y1 := hB6.cell (i := 1) (v := .slice A 32 c) rfl
    clear hW5 hC6 hL6 hE5 hB5
    go_wp2_with fail
    refine (wraw_any w2 w6 p _ _ 32 c _ A _ R hE6 hW6 (hr.ext (hE12.trans hE6)) (by omega)).mono ?_
    rintro e w7 ⟨rfl, A7, c7, hW7, hC7, hL7⟩
    have hE7 := hW6.chg_ext hE6 hC7
    have hW8 : Wtr w7 w2.heap.size p A7 53 c7 (bodyC cosignL x R) := by
      rw [bodyC_yes Hc.out]
      simpa [beBytes_four] using hW7
    clear hW6 hC7 hL7 hE6 hB6 hW7
    go_wp2_with fail
    refine (wdone_any w7 w2.heap.size p _ _ _ _ hW8 (by omega)).mono ?_
    rintro e w9 ⟨B, d, rfl, own9, hE9⟩
    go_wp2_with fail
    go_ret
    exact ⟨fun _ => ⟨B, d, rfl, own9.base (hE12.trans hE7).size⟩, fun h => absurd (Hc.out.symm.trans h) (by decide), (hE12.trans hE7).trans hE9⟩

theorem cosbody_53 (x : Int) (A : Option Addr) (n c : Nat) (R : List UInt8) (w : World) (hr : RB w A n c R) (hc : rightC x R = true) :
    Calls Try.prog 45 #[.agg #[.int .i64 x, .slice A n c]] w fun e w' => ∃ B d, e = .returned (.slice B 53 d) ∧ RB w' B 53 d (bodyC cosignL x R) ∧ Ext w w' := by
  refine (cosbody_any x A n c R w hr).mono ?_
  rintro e w' ⟨h1, _, hE⟩
  obtain ⟨B, d, rfl, own⟩ := h1 hc
  exact ⟨B, d, rfl, own.rb, hE⟩
noncomputable def infYB : TypeInfo := (Try.prog.info? 22).getD default
theorem infYB_eq : Try.prog.info? 22 = some infYB := by kernel_rfl
theorem infYB_size : infYB.size = 1 := by kernel_rfl
/-- does a cosignature verify? wn: whose it is said to be -/
noncomputable def cosB (LG : List UInt8) (Ws : List (List UInt8)) (q x : Int) (R : List UInt8) (wn k : Int) (Ps Qs : List (List UInt8)) : Bool :=
  polB LG Ws q && (rightC x R && (decide (0 ≤ wn ∧ wn < (Ws.length : Int)) && verB (lb Ws wn.toNat) (bodyC cosignL x R) k Ps Qs))
set_option maxHeartbeats 8000000 in
theorem cosverify_any (G A B P Q : Option Addr) (ng cg n c nb d np cp nq cq : Nat) (q x wn k : Int) (LG R : List UInt8) (Ws PS QS : List (List UInt8)) (w : World) (rG : RB w G ng cg LG) (rW : RBB w A n c Ws) (rR : RB w B nb d R) (rP : RBB w P np cp PS) (rQ : RBB w Q nq cq QS) :
    Calls Try.prog 49 #[.agg #[.slice G ng cg, .slice A n c, .int .i64 q], .agg #[.int .i64 x, .slice B nb d], .agg #[.int .i64 wn, .int .i64 k, .slice P np cp, .slice Q nq cq]] w fun e w' => e = .returned (.bool (cosB LG Ws q x R wn k PS QS)) ∧ Ext w w' := by
  have hEa := Ext.new w (.cells #[.slice G ng cg, .slice A n c, .int .i64 q] 77)
  have hB3 := Blk.new w 77 #[.slice G ng cg, .slice A n c, .int .i64 q]
  have hEn := Ext.new (w.alloc (.cells #[.slice G ng cg, .slice A n c, .int .i64 q] 77)) (.cells #[.int .i64 x, .slice B nb d] 24)
  have hB4 := Blk.new (w.alloc (.cells #[.slice G ng cg, .slice A n c, .int .i64 q] 77)) 24 #[.int .i64 x, .slice B nb d]
  rw [World.size_alloc] at hB4
  have hEm := Ext.new ((w.alloc (.cells #[.slice G ng cg, .slice A n c, .int .i64 q] 77)).alloc (.cells #[.int .i64 x, .slice B nb d] 24)) (.cells #[.int .i64 wn, .int .i64 k, .slice P np cp, .slice Q nq cq] 69)
  have hB5 := Blk.new ((w.alloc (.cells #[.slice G ng cg, .slice A n c, .int .i64 q] 77)).alloc (.cells #[.int .i64 x, .slice B nb d] 24)) 69 #[.int .i64 wn, .int .i64 k, .slice P np cp, .slice Q nq cq]
  rw [World.size_alloc, World.size_alloc] at hB5
  replace hB3 := (hB3.ext hEn).ext hEm
  replace hB4 := hB4.ext hEm
  replace hEa := (hEa.trans hEn).trans hEm
  replace rG := rG.ext hEa
  replace rW := rW.ext hEa
  replace rR := rR.ext hEa
  replace rP := rP.ext hEa
  replace rQ := rQ.ext hEa
  have hlw := rW.len
  have hcb : cosB LG Ws q x R wn k PS QS = (polB LG Ws q && (rightC x R && (decide (0 ≤ wn ∧ wn < (Ws.length : Int)) && verB (lb Ws wn.toNat) (bodyC cosignL x R) k PS QS))) := rfl
  rw [hlw] at hcb
  have Hcb := Lib.hid hcb
  have Hlw := Lib.hid hlw
  have hcap := rW.cap
  have hroom := rW.room
  unfold maxLen at hcap
  clear hEn hEm hcb hlw
  go_enter Try.func49, Try.ntmps49
  go_wp2_with fail
  generalize ((w.alloc (.cells #[.slice G ng cg, .slice A n c, .int .i64 q] 77)).alloc (.cells #[.int .i64 x, .slice B nb d] 24)).alloc (.cells #[.int .i64 wn, .int .i64 k, .slice P np cp, .slice Q nq cq] 69) = w1 at *
  generalize w.heap.size = g3 at *
  refine (cosright_any G A ng cg n c q LG Ws w1 rG rW).mono ?_
  rintro e w2 ⟨rfl, hE⟩
  replace rG := rG.ext hE
  replace rW := rW.ext hE
  replace rR := rR.ext hE
  replace rP := rP.ext hE
  replace rQ := rQ.ext hE
  replace hB3 := hB3.ext hE
  replace hB4 := hB4.ext hE
  replace hB5 := hB5.ext hE
  replace hEa := hEa.trans hE
  clear hE
  cases hpol : polB LG Ws q with
  | false =>
    have hv : cosB LG Ws q x R wn k PS QS = false := by rw [Hcb.out, hpol]; rfl
    have Hv := Lib.hid hv
    clear hpol hv
    go_wp2_with fail
    go_ret
    exact ⟨by rw [Hv.out]; rfl, hEa⟩
  | true =>
    rw [hpol] at Hcb
    clear hpol
    have y0 := hB4.cell (i := 0) (v := .int .i64 x) rfl
    have y1 := hB4.cell (i := 1) (v := .slice B nb d) rfl
    go_wp2_with fail
    refine (cright_any x B nb d R w2 rR).mono ?_
    rintro e w3 ⟨rfl, hE⟩
    replace rG := rG.ext hE
    replace rW := rW.ext hE
    replace rR := rR.ext hE
    replace rP := rP.ext hE
    replace rQ := rQ.ext hE
    replace hB3 := hB3.ext hE
    replace hB4 := hB4.ext hE
    replace hB5 := hB5.ext hE
    replace hEa := hEa.trans hE
    clear hE y0 y1
    cases hc : rightC x R with
    | false =>
      have hv : cosB LG Ws q x R wn k PS QS = false := by rw [Hcb.out, hc]; rfl
      have Hv := Lib.hid hv
      clear hc hv
      go_wp2_with fail
      go_ret
      exact ⟨by rw [Hv.out]; rfl, hEa⟩
    | true =>
      rw [hc] at Hcb
      have z0 := hB5.cell (i := 0) (v := .int .i64 wn) rfl
      have z1 := hB3.cell (i := 1) (v := .slice A n c) rfl
      by_cases hw0 : wn < 0
      · have hv : cosB LG Ws q x R wn k PS QS = false := by rw [Hcb.out]; simp; intros; omega
        have Hv := Lib.hid hv
        clear hc hv
        go_wp2_with fail
        go_ret
        exact ⟨by rw [Hv.out]; rfl, hEa⟩
      · by_cases hwn : (n : Int) ≤ wn
        · have hv : cosB LG Ws q x R wn k PS QS = false := by rw [Hcb.out]; simp; intros; omega
          have Hv := Lib.hid hv
          clear hc hv
          go_wp2_with fail
          go_ret
          exact ⟨by rw [Hv.out]; rfl, hEa⟩
        · obtain ⟨j, rfl⟩ : ∃ j : Nat, wn = (j : Int) := ⟨wn.toNat, by omega⟩
          have hjn : j < n := by omega
          have hv : cosB LG Ws q x R (j : Int) k PS QS = verB (lb Ws j) (bodyC cosignL x R) k PS QS := by
            rw [Hcb.out]
            have h9 : (0 : Int) ≤ (j : Int) ∧ (j : Int) < (n : Int) := ⟨by omega, by omega⟩
            simp only [h9, and_self, decide_true, Bool.true_and]
            rfl
          have Hv := Lib.hid hv
          obtain ⟨ad, rfl, hcl⟩ := rW.cells (by omega)
          obtain ⟨E, z, y, hcell, rE⟩ := hcl j hjn
          have Hc := Lib.hid hc
          clear hcl hv Hcb hc
          go_upto_region 3 with (fail)
          clear z0 z1
          have hc := Hc.out
          refine par_ext (n := 11) (by kernel_rfl) [.is (.pointer (some ⟨g3, 1, none⟩)), .is (.slice ((some ad)) (n) (c)), .is (.pointer (some ⟨g3 + 1 + 1, 0, none⟩)), .is (.int .i64 ((j : Int))), .is (.pointer (some (ad.add (j)))), .is (.slice (E) (z) (y)), .is (.agg #[.int .i64 (x), .slice (B) (nb) (d)]), .rk (53) (bodyC cosignL x R), .is (.pointer (some ⟨g3 + 1 + 1, 1, none⟩)), .is (.agg #[.int .i64 (k), .slice (P) (np) (cp), .slice (Q) (nq) (cq)]), .is (.bool (verB (lb Ws j) (bodyC cosignL x R) k PS QS))] rfl ⟨?_, ?_, ?_, ?_, ?_, ?_, ?_, ?_, ?_, ?_, ?_, trivial⟩ ?_
          · refine stepE rfl fun sdn sa sw sE sd sk => ?_
            have h3 : sa.eval (.tmp 3) = .pointer (some ⟨g3, 0, none⟩) := sk.old 3 rfl
            refine Runs.of_run (r := .pointer (some ⟨g3, 1, none⟩)) (w' := sw) ?_ ⟨Ext.refl _, rfl⟩
            unfold execOp
            simp only [h3]
            go_simp
          · refine stepE rfl fun sdn sa sw sE sd sk => ?_
            have h28 : sa.eval (.tmp 28) = .pointer (some ⟨g3, 1, none⟩) := sk.fact 0 28 rfl (sd 0 rfl)
            exact Runs.load rfl h28 (run_load1 Try.underlying37 rfl ((hB3.ext sE).cell (i := 1) rfl)) ⟨Ext.refl _, rfl⟩
          · refine stepE rfl fun sdn sa sw sE sd sk => ?_
            have h5 : sa.eval (.tmp 5) = .pointer (some ⟨g3 + 1 + 1, 0, none⟩) := sk.old 5 rfl
            refine Runs.of_run (r := .pointer (some ⟨g3 + 1 + 1, 0, none⟩)) (w' := sw) ?_ ⟨Ext.refl _, rfl⟩
            unfold execOp
            simp only [h5]
            go_simp
          · refine stepE rfl fun sdn sa sw sE sd sk => ?_
            have h30 : sa.eval (.tmp 30) = .pointer (some ⟨g3 + 1 + 1, 0, none⟩) := sk.fact 2 30 rfl (sd 2 rfl)
            exact Runs.load rfl h30 (run_load1 Try.underlying3 rfl ((hB5.ext sE).cell (i := 0) rfl)) ⟨Ext.refl _, rfl⟩
          · refine stepE rfl fun sdn sa sw sE sd sk => ?_
            have h29 : sa.eval (.tmp 29) = .slice ((some ad)) (n) (c) := sk.fact 1 29 rfl (sd 1 rfl)
            have h31 : sa.eval (.tmp 31) = .int .i64 ((j : Int)) := sk.fact 3 31 rfl (sd 3 rfl)
            exact Runs.idx rfl h29 h31 (run_idx_sl1 Try.underlying37 infYB_eq infYB_size (j) (by omega) (by omega)) ⟨Ext.refl _, rfl⟩
          · refine stepE rfl fun sdn sa sw sE sd sk => ?_
            have h32 : sa.eval (.tmp 32) = .pointer (some (ad.add (j))) := sk.fact 4 32 rfl (sd 4 rfl)
            exact Runs.load rfl h32 (run_load1 Try.underlying22 rfl (sE.cell hcell)) ⟨Ext.refl _, rfl⟩
          · refine stepE rfl fun sdn sa sw sE sd sk => ?_
            have h4 : sa.eval (.tmp 4) = .pointer (some ⟨g3 + 1, 0, none⟩) := sk.old 4 rfl
            exact Runs.load rfl h4 (load_part (hB4.ext sE) 0 (vs := [.int .i64 (x), .slice (B) (nb) (d)]) rfl Try.underlying24 rfl (by kernel_rfl)) ⟨Ext.refl _, rfl⟩
          · refine stepE rfl fun sdn sa sw sE sd sk => ?_
            have h34 : sa.eval (.tmp 34) = .agg #[.int .i64 (x), .slice (B) (nb) (d)] := sk.fact 6 34 rfl (sd 6 rfl)
            refine Runs.call (f := 45) (vs := [.agg #[.int .i64 (x), .slice (B) (nb) (d)]]) rfl rfl rfl (by simp only [List.map_toArray, List.map_cons, List.map_nil, h34] <;> rfl) (ent45 _ _) ((cosbody_53 _ _ _ _ _ sw (rR.ext sE) (hc)).mono ?_); rintro e w' ⟨A', c', rfl, own, hx⟩; exact ⟨_, rfl, hx, A', c', rfl, own⟩
          · refine stepE rfl fun sdn sa sw sE sd sk => ?_
            have h5 : sa.eval (.tmp 5) = .pointer (some ⟨g3 + 1 + 1, 0, none⟩) := sk.old 5 rfl
            refine Runs.of_run (r := .pointer (some ⟨g3 + 1 + 1, 1, none⟩)) (w' := sw) ?_ ⟨Ext.refl _, rfl⟩
            unfold execOp
            simp only [h5]
            go_simp
          · refine stepE rfl fun sdn sa sw sE sd sk => ?_
            have h36 : sa.eval (.tmp 36) = .pointer (some ⟨g3 + 1 + 1, 1, none⟩) := sk.fact 8 36 rfl (sd 8 rfl)
            exact Runs.load rfl h36 (load_part (hB5.ext sE) 1 (vs := [.int .i64 (k), .slice (P) (np) (cp), .slice (Q) (nq) (cq)]) rfl Try.underlying39 rfl (by kernel_rfl)) ⟨Ext.refl _, rfl⟩
          · refine stepE rfl fun sdn sa sw sE sd sk => ?_
            have h33 : sa.eval (.tmp 33) = .slice (E) (z) (y) := sk.fact 5 33 rfl (sd 5 rfl)
            obtain ⟨A35, c35, h35, r35⟩ := sk.fact 7 35 rfl (sd 7 rfl)
            have h37 : sa.eval (.tmp 37) = .agg #[.int .i64 (k), .slice (P) (np) (cp), .slice (Q) (nq) (cq)] := sk.fact 9 37 rfl (sd 9 rfl)
            refine Runs.call (f := 75) (vs := [.slice (E) (z) (y), .slice (A35) (53) (c35), .agg #[.int .i64 (k), .slice (P) (np) (cp), .slice (Q) (nq) (cq)]]) rfl rfl rfl (by simp only [List.map_toArray, List.map_cons, List.map_nil, h33, h35, h37] <;> rfl) (ent75 _ _) ((sverify_len _ _ _ _ _ _ _ _ _ _ _ _ _ _ _ _ _ sw (rE.ext sE) r35 lenV (rP.ext sE) (rQ.ext sE)).mono ?_); rintro e w' ⟨rfl, hx⟩; exact ⟨_, rfl, hx, rfl⟩
          intro vals W3 hE3 hv3
          have e0 : vals 0 = .pointer (some ⟨g3, 1, none⟩) := hv3 0 (by omega) 28 rfl
          have e1 : vals 1 = .slice ((some ad)) (n) (c) := hv3 1 (by omega) 29 rfl
          have e2 : vals 2 = .pointer (some ⟨g3 + 1 + 1, 0, none⟩) := hv3 2 (by omega) 30 rfl
          have e3 : vals 3 = .int .i64 ((j : Int)) := hv3 3 (by omega) 31 rfl
          have e4 : vals 4 = .pointer (some (ad.add (j))) := hv3 4 (by omega) 32 rfl
          have e5 : vals 5 = .slice (E) (z) (y) := hv3 5 (by omega) 33 rfl
          have e6 : vals 6 = .agg #[.int .i64 (x), .slice (B) (nb) (d)] := hv3 6 (by omega) 34 rfl
          obtain ⟨A35, c35, e7, r35⟩ := hv3 7 (by omega) 35 rfl
          have e8 : vals 8 = .pointer (some ⟨g3 + 1 + 1, 1, none⟩) := hv3 8 (by omega) 36 rfl
          have e9 : vals 9 = .agg #[.int .i64 (k), .slice (P) (np) (cp), .slice (Q) (nq) (cq)] := hv3 9 (by omega) 37 rfl
          have e10 : vals 10 = .bool (verB (lb Ws j) (bodyC cosignL x R) k PS QS) := hv3 10 (by omega) 38 rfl
          simp only [putAll, Act.put, List.take_succ_cons, List.take_zero, List.drop_succ_cons, List.drop_zero, List.drop_nil, List.take_nil, Nat.reduceAdd, List.setIfInBounds_toArray, List.set_cons_succ, List.set_cons_zero, e0, e1, e2, e3, e4, e5, e6, e7, e8, e9, e10]
          clear hv3 e0 e1 e2 e3 e4 e5 e6 e7 e8 e9 e10
          go_wp2_with fail
          go_ret
          exact ⟨by rw [Hv.out]; rfl, hEa.trans hE3⟩
end Go.Proofs.Ythggfbpdhkpkjaa
namespace Go.Proofs.Ythggfbpdhkpkjaa
set_option maxRecDepth 100000
open Go Go.RowKit
/-- a cosignature -/
structure CSig where
  wn : Int
  k : Int
  ps : List (List UInt8)
  qs : List (List UInt8)
def cz : CSig := ⟨0, 0, [], []⟩
def cg_ (gs : List CSig) (j : Nat) : CSig := gs.getD j cz
/-- a slice of cosignatures that is read -/
structure RCS (w : World) (A : Option Addr) (n c : Nat) (gs : List CSig) : Prop where
  len : gs.length = n
  room : n ≤ c
  cap : c ≤ maxLen
  cells : 0 < n → ∃ ad, A = some ad ∧ ∀ j, j < n → ∃ P np cp Q nq cq, w.cell? (ad.add (j * 4)) = some (.int .i64 (cg_ gs j).wn) ∧ w.cell? ((ad.add (j * 4)).add 1) = some (.int .i64 (cg_ gs j).k) ∧
    w.cell? ((ad.add (j * 4)).add 2) = some (.slice P np cp) ∧ w.cell? ((ad.add (j * 4)).add 3) = some (.slice Q nq cq) ∧ RBB w P np cp (cg_ gs j).ps ∧ RBB w Q nq cq (cg_ gs j).qs
theorem RCS.ext {w w' : World} {A : Option Addr} {n c : Nat} {gs : List CSig} (h : RCS w A n c gs) (e : Ext w w') : RCS w' A n c gs :=
  ⟨h.len, h.room, h.cap, fun hn => by
    obtain ⟨ad, ha, hc⟩ := h.cells hn
    refine ⟨ad, ha, fun j hj => ?_⟩
    obtain ⟨P, np, cp, Q, nq, cq, h1, h2, h3, h4, h5, h6⟩ := hc j hj
    exact ⟨P, np, cp, Q, nq, cq, e.cell h1, e.cell h2, e.cell h3, e.cell h4, h5.ext e, h6.ext e⟩⟩
def seenL (v : CSig → Bool) (gs : List CSig) (i : Nat) : Bool := gs.any fun g => decide (g.wn = (i : Int)) && v g
def b2i (b : Bool) : Int := if b = true then 1 else 0
/-- how many witnesses have one that verifies -/
def cntL (v : CSig → Bool) (gs : List CSig) : Int := b2i (seenL v gs 0) + b2i (seenL v gs 1) + b2i (seenL v gs 2) + b2i (seenL v gs 3)
theorem seenL_snoc (v : CSig → Bool) (gs : List CSig) (g : CSig) (i : Nat) : seenL v (gs ++ [g]) i = (seenL v gs i || (decide (g.wn = (i : Int)) && v g)) := by
  unfold seenL
  simp
theorem take_snoc_cg (gs : List CSig) (m : Nat) (hm : m < gs.length) : gs.take (m + 1) = gs.take m ++ [cg_ gs m] := by
  rw [List.take_succ_eq_append_getElem hm]
  congr 2
  simp [cg_, hm]
/-- one more that counts for nobody, or for somebody who has one -/
theorem cnt_same {v : CSig → Bool} {gs : List CSig} {g : CSig} (h : ∀ i : Nat, i < 4 → g.wn = (i : Int) → v g = true → seenL v gs i = true) : ∀ i, i < 4 → seenL v (gs ++ [g]) i = seenL v gs i := by
  intro i hi
  rw [seenL_snoc]
  by_cases h1 : g.wn = (i : Int)
  · cases hv : v g with
    | false => simp
    | true => rw [h i hi h1 hv]; simp
  · simp [h1]
theorem cntL_same {v : CSig → Bool} {gs gs' : List CSig} (h : ∀ i, i < 4 → seenL v gs' i = seenL v gs i) : cntL v gs' = cntL v gs := by
  unfold cntL
  rw [h 0 (by omega), h 1 (by omega), h 2 (by omega), h 3 (by omega)]
def boolsA (s : Nat → Bool) : Array Value := #[.bool (s 0), .bool (s 1), .bool (s 2), .bool (s 3)]
theorem boolsA_get (s : Nat → Bool) {j : Nat} (hj : j < 4) : (boolsA s)[j]? = some (.bool (s j)) := by
  match j, hj with
  | 0, _ => rfl
  | 1, _ => rfl
  | 2, _ => rfl
  | 3, _ => rfl
theorem boolsA_set (s s' : Nat → Bool) {j : Nat} (hj : j < 4) (h1 : s' j = true) (h2 : ∀ i, i < 4 → i ≠ j → s' i = s i) : (boolsA s).setIfInBounds j (.bool true) = boolsA s' := by
  unfold boolsA
  have hc : j = 0 ∨ j = 1 ∨ j = 2 ∨ j = 3 := by omega
  rcases hc with rfl | rfl | rfl | rfl
  · rw [h1, h2 1 (by omega) (by omega), h2 2 (by omega) (by omega), h2 3 (by omega) (by omega)]; rfl
  · rw [h1, h2 0 (by omega) (by omega), h2 2 (by omega) (by omega), h2 3 (by omega) (by omega)]; rfl
  · rw [h1, h2 0 (by omega) (by omega), h2 1 (by omega) (by omega), h2 3 (by omega) (by omega)]; rfl
  · rw [h1, h2 0 (by omega) (by omega), h2 1 (by omega) (by omega), h2 2 (by omega) (by omega)]; rfl
theorem boolsA_eq {s s' : Nat → Bool} (h : ∀ i, i < 4 → s' i = s i) : boolsA s' = boolsA s := by
  unfold boolsA
  rw [h 0 (by omega), h 1 (by omega), h 2 (by omega), h 3 (by omega)]
theorem cnt_more {v : CSig → Bool} {gs : List CSig} {g : CSig} {j : Nat} (hj : j < 4) (hw : g.wn = (j : Int)) (hv : v g = true) (hs : seenL v gs j = false) :
    seenL v (gs ++ [g]) j = true ∧ (∀ i, i < 4 → i ≠ j → seenL v (gs ++ [g]) i = seenL v gs i) ∧ cntL v (gs ++ [g]) = cntL v gs + 1 := by
  have h1 : seenL v (gs ++ [g]) j = true := by rw [seenL_snoc, hv]; simp [hw]
  have h2 : ∀ i, i < 4 → i ≠ j → seenL v (gs ++ [g]) i = seenL v gs i := by
    intro i hi hij
    rw [seenL_snoc]
    have : ¬ (g.wn = (i : Int)) := by omega
    simp [this]
  refine ⟨h1, h2, ?_⟩
  have hc : j = 0 ∨ j = 1 ∨ j = 2 ∨ j = 3 := by omega
  unfold cntL
  rcases hc with rfl | rfl | rfl | rfl
  · rw [h1, hs, h2 1 (by omega) (by omega), h2 2 (by omega) (by omega), h2 3 (by omega) (by omega)]; simp only [b2i]; simp; omega
  · rw [h1, hs, h2 0 (by omega) (by omega), h2 2 (by omega) (by omega), h2 3 (by omega) (by omega)]; simp only [b2i]; simp; omega
  · rw [h1, hs, h2 0 (by omega) (by omega), h2 1 (by omega) (by omega), h2 3 (by omega) (by omega)]; simp only [b2i]; simp; omega
  · rw [h1, hs, h2 0 (by omega) (by omega), h2 1 (by omega) (by omega), h2 2 (by omega) (by omega)]; simp only [b2i]; simp
theorem cntL_le (v : CSig → Bool) (gs : List CSig) : 0 ≤ cntL v gs ∧ cntL v gs ≤ 4 := by
  unfold cntL b2i
  refine ⟨?_, ?_⟩ <;> (repeat' split) <;> omega
def CntI (w : World) (g3 g4 gS : Nat) (po ch : Array Value) (v : CSig → Bool) (gs : List CSig) (x i : Value) (wr : World) : Prop :=
  ∃ m : Nat, m ≤ gs.length ∧ i = .int .i64 m ∧ x = .int .i64 (cntL v (gs.take m)) ∧ Blk wr gS 143 (boolsA (seenL v (gs.take m))) ∧ Blk wr g3 77 po ∧ Blk wr g4 24 ch ∧ Ext w wr
set_option maxHeartbeats 16000000 in
theorem ccount_any (G A B L : Option Addr) (ng cg n c nb d nl cl : Nat) (q x : Int) (LG R : List UInt8) (Ws : List (List UInt8)) (gs : List CSig) (w : World) (rG : RB w G ng cg LG) (rW : RBB w A n c Ws) (rR : RB w B nb d R) (rL : RCS w L nl cl gs) :
    Calls Try.prog 89 #[.agg #[.slice G ng cg, .slice A n c, .int .i64 q], .agg #[.int .i64 x, .slice B nb d], .slice L nl cl, .func (.func 49) #[] #[]] w fun e w' => e = .returned (.int .i64 (cntL (fun g => cosB LG Ws q x R g.wn g.k g.ps g.qs) gs)) ∧ Ext w w' := by
  obtain ⟨v, hv⟩ : ∃ v : CSig → Bool, v = fun g => cosB LG Ws q x R g.wn g.k g.ps g.qs := ⟨_, rfl⟩
  rw [← hv]
  have Hv := Lib.hid hv
  have hll := rL.len
  have Hll := Lib.hid hll
  have hcap := rL.cap
  have hroom := rL.room
  unfold maxLen at hcap
  clear hv hll
  go_enter Try.func89, Try.ntmps89
  go_wp2_with fail
  have hEa := Ext.new w (.cells #[.slice G ng cg, .slice A n c, .int .i64 q] 77)
  have hB3 := Blk.new w 77 #[.slice G ng cg, .slice A n c, .int .i64 q]
  have hEn := Ext.new (w.alloc (.cells #[.slice G ng cg, .slice A n c, .int .i64 q] 77)) (.cells #[.int .i64 x, .slice B nb d] 24)
  have hB4 := Blk.new (w.alloc (.cells #[.slice G ng cg, .slice A n c, .int .i64 q] 77)) 24 #[.int .i64 x, .slice B nb d]
  rw [World.size_alloc] at hB4
  have hEm := Ext.new ((w.alloc (.cells #[.slice G ng cg, .slice A n c, .int .i64 q] 77)).alloc (.cells #[.int .i64 x, .slice B nb d] 24)) (.cells #[.bool false, .bool false, .bool false, .bool false] 143)
  have hBS := Blk.new ((w.alloc (.cells #[.slice G ng cg, .slice A n c, .int .i64 q] 77)).alloc (.cells #[.int .i64 x, .slice B nb d] 24)) 143 #[.bool false, .bool false, .bool false, .bool false]
  rw [World.size_alloc, World.size_alloc] at hBS
  replace hB3 := (hB3.ext hEn).ext hEm
  replace hB4 := hB4.ext hEm
  replace hEa := (hEa.trans hEn).trans hEm
  clear hEn hEm
  generalize ((w.alloc (.cells #[.slice G ng cg, .slice A n c, .int .i64 q] 77)).alloc (.cells #[.int .i64 x, .slice B nb d] 24)).alloc (.cells #[.bool false, .bool false, .bool false, .bool false] 143) = w1 at *
  have hg3 : w.heap.size ≤ w.heap.size + 1 + 1 := by omega
  have hd1 : w.heap.size ≠ w.heap.size + 1 + 1 := by omega
  have hd2 : w.heap.size + 1 ≠ w.heap.size + 1 + 1 := by omega
  generalize w.heap.size + 1 + 1 = gS at *
  generalize w.heap.size + 1 = g4 at *
  obtain ⟨g3, hg⟩ : ∃ g3, g3 = w.heap.size := ⟨_, rfl⟩
  rw [← hg] at hB3 hd1 hg3 ⊢
  replace hBS : Blk w1 gS 143 (boolsA (seenL v (gs.take 0))) := hBS
  have Hg := Lib.hid (And.intro hg hg3)
  clear hg3 hg
  go_loopw [15, 9] (fun i x_ wr => CntI w g3 g4 gS #[.slice G ng cg, .slice A n c, .int .i64 q] #[.int .i64 x, .slice B nb d] v gs x_ i wr) (fun i _ _ => nl - (intOf i).toNat)
  case atStart => exact ⟨0, by omega, rfl, rfl, hBS, hB3, hB4, hEa⟩
  case round =>
    clear hBS hB3 hB4 hEa
    obtain ⟨m, hm, rfl, rfl, hBS, hB3, hB4, hEr⟩ := hrel
    rw [Hll.out] at hm
    by_cases hlt : m < nl
    · have hmi : (m : Int) < (nl : Int) := by omega
      have hsn := take_snoc_cg gs m (by rw [Hll.out]; exact hlt)
      have Hsn := Lib.hid hsn
      obtain ⟨ad, rfl, hcl⟩ := (rL.ext hEr).cells (by omega)
      obtain ⟨P, np, cp, Q, nq, cq, k0, k1, k2, k3, rP, rQ⟩ := hcl m hlt
      have hvg : v (cg_ gs m) = cosB LG Ws q x R (cg_ gs m).wn (cg_ gs m).k (cg_ gs m).ps (cg_ gs m).qs := by rw [Hv.out]
      clear hcl hsn
      generalize cg_ gs m = g at *
      obtain ⟨wn, k, PS, QS⟩ := g
      have Hvg := Lib.hid hvg
      clear hvg
      obtain ⟨w1', hw1'⟩ : ∃ w1', w1' = wr.alloc (.cells #[.int .i64 wn, .int .i64 k, .slice P np cp, .slice Q nq cq] 69) := ⟨_, rfl⟩
      have hEn := Ext.new wr (.cells #[.int .i64 wn, .int .i64 k, .slice P np cp, .slice Q nq cq] 69)
      have hB12 := Blk.new wr 69 #[.int .i64 wn, .int .i64 k, .slice P np cp, .slice Q nq cq]
      have r1 : wr.cell? ⟨(ad.add (m * 4)).block, (ad.add (m * 4)).off + 1, none⟩ = some (.int .i64 k) := k1
      have r2 : wr.cell? ⟨(ad.add (m * 4)).block, (ad.add (m * 4)).off + 2, none⟩ = some (.slice P np cp) := k2
      have r3 : wr.cell? ⟨(ad.add (m * 4)).block, (ad.add (m * 4)).off + 3, none⟩ = some (.slice Q nq cq) := k3
      clear k1 k2 k3
      have y0 := hB12.cell (i := 0) (v := .int .i64 wn) rfl
      rw [← hw1'] at hEn hB12 y0
      have hBS0 := hBS
      replace hBS := hBS.ext hEn
      replace hB3 := hB3.ext hEn
      replace hB4 := hB4.ext hEn
      replace hEr := hEr.trans hEn
      have hdS : gS ≠ wr.heap.size := by
        intro h
        have := hBS0.lt
        omega
      clear hBS0
      go_wp2_with fail
      rw [← hw1']
      clear hw1' r1 r2 r3 k0
      refine (cwit_any wn w1').mono ?_
      rintro e w2 ⟨rfl, rfl⟩
      by_cases hj : 0 ≤ wn ∧ wn < 4
      · obtain ⟨j, rfl⟩ : ∃ j : Nat, wn = (j : Int) := ⟨wn.toNat, by omega⟩
        have hj4 : j < 4 := by omega
        rw [decide_eq_true hj]
        have y5 := hBS.cell (boolsA_get (seenL v (gs.take m)) hj4)
        clear hj
        have hfj := hBS.frozen j
        cases hs : seenL v (gs.take m) j with
        | true =>
          rw [hs] at y5
          have hcs := cnt_same (v := v) (gs := gs.take m) (g := ⟨(j : Int), k, PS, QS⟩) (fun i hi h1 _ => by
            have h2 : (j : Int) = (i : Int) := h1
            obtain rfl : j = i := by omega
            exact hs)
          rw [← Hsn.out] at hcs
          have hcn := cntL_same hcs
          have Hcs := Lib.hid hcs
          have Hcn := Lib.hid hcn
          clear hcs hcn hs
          go_wp2_with fail
          go_roundw
          case rel => exact ⟨m + 1, by rw [Hll.out]; omega, rfl, by rw [Hcn.out], by rw [boolsA_eq Hcs.out]; exact hBS, hB3, hB4, hEr⟩
          case measure => simp [intOf]; omega
        | false =>
          rw [hs] at y5
          have Hs := Lib.hid hs
          clear hs
          have y30 := hB3.cell (i := 0) (v := .slice G ng cg) rfl
          have y31 := hB3.cell (i := 1) (v := .slice A n c) rfl
          have y32 := hB3.cell (i := 2) (v := .int .i64 q) rfl
          have y40 := hB4.cell (i := 0) (v := .int .i64 x) rfl
          have y41 := hB4.cell (i := 1) (v := .slice B nb d) rfl
          have y120 := hB12.cell (i := 0) (v := .int .i64 (j : Int)) rfl
          have y121 := hB12.cell (i := 1) (v := .int .i64 k) rfl
          have y122 := hB12.cell (i := 2) (v := .slice P np cp) rfl
          have y123 := hB12.cell (i := 3) (v := .slice Q nq cq) rfl
          go_wp2_with fail
          have rG2 := rG.ext hEr
          have rW2 := rW.ext hEr
          have rR2 := rR.ext hEr
          replace rP := rP.ext hEn
          replace rQ := rQ.ext hEn
          refine (cosverify_any G A B P Q ng cg n c nb d np cp nq cq q x (j : Int) k LG R Ws PS QS w2 rG2 rW2 rR2 rP rQ).mono ?_
          rintro e w3 ⟨rfl, hE⟩
          rw [← Hvg.out]
          clear rG2 rW2 rR2 rP rQ y30 y31 y32 y40 y41 y120 y121 y122 y123 y0 y5 hfj
          replace hBS := hBS.ext hE
          replace hB3 := hB3.ext hE
          replace hB4 := hB4.ext hE
          replace hB12 := hB12.ext hE
          replace hEr := hEr.trans hE
          have y0 := hB12.cell (i := 0) (v := .int .i64 (j : Int)) rfl
          cases hv : v ⟨(j : Int), k, PS, QS⟩ with
          | false =>
            have hcs := cnt_same (v := v) (gs := gs.take m) (g := ⟨(j : Int), k, PS, QS⟩) (fun i hi _ h2 => by rw [hv] at h2; cases h2)
            rw [← Hsn.out] at hcs
            have hcn := cntL_same hcs
            have Hcs := Lib.hid hcs
            have Hcn := Lib.hid hcn
            clear hcs hcn hv Hvg
            go_wp2_with fail
            go_roundw
            case rel => exact ⟨m + 1, by rw [Hll.out]; omega, rfl, by rw [Hcn.out], by rw [boolsA_eq Hcs.out]; exact hBS, hB3, hB4, hEr⟩
            case measure => simp [intOf]; omega
          | true =>
            obtain ⟨c1, c2, c3⟩ := cnt_more (v := v) (gs := gs.take m) (g := ⟨(j : Int), k, PS, QS⟩) hj4 rfl hv Hs.out
            rw [← Hsn.out] at c1 c2 c3
            have y5 := hBS.cell (boolsA_get (seenL v (gs.take m)) hj4)
            have hfj := hBS.frozen j
            have hset := hBS.set j (.bool true)
            rw [boolsA_set _ _ hj4 c1 c2] at hset
            have hb := cntL_le v (gs.take m)
            have hb1 := hb.1
            have hb2 := hb.2
            have H3 := Lib.hid c3
            have hBS' := hset
            have hB3' := hB3.far (p := ⟨gS, j, none⟩) hd1 (.bool true)
            have hB4' := hB4.far (p := ⟨gS, j, none⟩) hd2 (.bool true)
            have hEr' := hEr.set (p := ⟨gS, j, none⟩) (by show w.heap.size ≤ gS; have h1 := Hg.out.1; have h2 := Hg.out.2; omega) (.bool true)
            clear c1 c2 c3 hb hv Hvg hset
            go_wp2_with fail
            go_roundw
            case rel => exact ⟨m + 1, by rw [Hll.out]; omega, rfl, by rw [H3.out], hBS', hB3', hB4', hEr'⟩
            case measure => simp [intOf]; omega
      · rw [decide_eq_false hj]
        go_wp2_with fail
        have hcs := cnt_same (v := v) (gs := gs.take m) (g := ⟨wn, k, PS, QS⟩) (fun i hi h1 _ => absurd ⟨by have : wn = (i : Int) := h1; omega, by have : wn = (i : Int) := h1; omega⟩ hj)
        rw [← Hsn.out] at hcs
        have hcn := cntL_same hcs
        go_roundw
        case rel => exact ⟨m + 1, by rw [Hll.out]; omega, rfl, by rw [hcn], by rw [boolsA_eq hcs]; exact hBS, hB3, hB4, hEr⟩
        case measure => simp [intOf]; omega
    · obtain rfl : m = nl := by omega
      have hall : gs.take m = gs := List.take_of_length_le (by rw [Hll.out]; exact Nat.le_refl _)
      rw [hall]
      go_wp2_with fail
      go_ret
      exact ⟨rfl, hEr⟩
end Go.Proofs.Ythggfbpdhkpkjaa

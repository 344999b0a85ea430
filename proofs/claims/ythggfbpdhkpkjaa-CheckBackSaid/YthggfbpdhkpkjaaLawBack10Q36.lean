/-
  law10.same, law10.reads, walked.
-/
import Derived.Test.YthggfbpdhkpkjaaLawBack10Q35
import Derived.Test.YthggfbpdhkpkjaaLawBack10Q21
namespace Go.Proofs.Ythggfbpdhkpkjaa
set_option maxRecDepth 100000
open Go Go.RowKit
theorem rleft_any (w : World) (base q : Nat) (L : List UInt8) (bad : Bool) (hR : RdrS w base q L bad) :
    Calls Try.prog 78 #[.pointer (some ⟨q, 0, none⟩)] w fun e w' => e = .returned (.int .i64 (L.length : Int)) ∧ w = w' := by
  obtain ⟨A, n, c, hn, hr⟩ := hR
  have y0 := hr.blk.cell (i := 0) (v := .slice A n c) rfl
  have hl := Lib.hid hr.rb.len
  go_enter Try.func78, Try.ntmps78
  go_wp2_with fail
  go_ret
  exact ⟨by rw [hl.out]; rfl, rfl⟩
set_option maxHeartbeats 2000000 in
theorem r1left_any (w : World) (base q : Nat) (L : List UInt8) (bad : Bool) (hR : RR w base q L bad) :
    Calls Try.prog 79 #[.pointer (some ⟨q, 0, none⟩)] w fun e w' => e = .returned (.int .i64 (L.length : Int)) ∧ Ext w w' := by
  obtain ⟨A, n, c, At, Bb, hb, hr, hAt, hn, _, h1, h2, _⟩ := hR
  have y2 := hb.cell (i := 2) (v := .bool bad) rfl
  have hl := hr.len
  cases bad with
  | true =>
    obtain rfl := h2 rfl
    clear h1 h2 hl
    go_enter Try.func79, Try.ntmps79
    go_wp2_with fail
    go_ret
    exact ⟨rfl, Ext.refl _⟩
  | false =>
    have hL := h1 rfl
    have hv : (L.length : Int) = (n : Int) - (At : Int) := by rw [hL, List.length_drop]; omega
    have Hv := Lib.hid hv
    clear h1 h2 hl hL hv
    go_enter Try.func79, Try.ntmps79
    go_upto_region 3 with (fail)
    have hcap := hr.cap
    unfold maxLen at hcap
    refine par_ext (n := 10) (by kernel_rfl) [.is (.pointer (some ⟨q, 0, none⟩)), .is (.pointer (some ⟨q, 0, none⟩)), .is (.pointer (some ⟨q, 0, none⟩)), .is (.slice (A) (n) (c)), .is (.int .i64 ((n : Nat))), .is (.pointer (some ⟨q, 0, none⟩)), .is (.pointer (some ⟨q, 0, none⟩)), .is (.pointer (some ⟨q, 1, none⟩)), .is (.int .i64 ((At : Int))), .is (.int .i64 ((n : Nat) - (At : Int)))] rfl ⟨?_, ?_, ?_, ?_, ?_, ?_, ?_, ?_, ?_, ?_, trivial⟩ ?_
    · refine stepE rfl fun sdn sa sw sE sd sk => ?_
      have h0 : sa.eval (.tmp 0) = .pointer (some ⟨q, 0, none⟩) := sk.old 0 rfl
      exact Runs.move rfl h0 ⟨Ext.refl _, rfl⟩
    · refine stepE rfl fun sdn sa sw sE sd sk => ?_
      have h7 : sa.eval (.tmp 7) = .pointer (some ⟨q, 0, none⟩) := sk.fact 0 7 rfl (sd 0 rfl)
      exact Runs.nil_ rfl h7 ⟨Ext.refl _, rfl⟩
    · refine stepE rfl fun sdn sa sw sE sd sk => ?_
      have h8 : sa.eval (.tmp 8) = .pointer (some ⟨q, 0, none⟩) := sk.fact 1 8 rfl (sd 1 rfl)
      refine Runs.of_run (r := .pointer (some ⟨q, 0, none⟩)) (w' := sw) ?_ ⟨Ext.refl _, rfl⟩
      unfold execOp
      simp only [h8]
      go_simp
    · refine stepE rfl fun sdn sa sw sE sd sk => ?_
      have h9 : sa.eval (.tmp 9) = .pointer (some ⟨q, 0, none⟩) := sk.fact 2 9 rfl (sd 2 rfl)
      exact Runs.load rfl h9 (run_load1 Try.underlying22 rfl ((hb.ext sE).cell (i := 0) rfl)) ⟨Ext.refl _, rfl⟩
    · refine stepE rfl fun sdn sa sw sE sd sk => ?_
      have h10 : sa.eval (.tmp 10) = .slice (A) (n) (c) := sk.fact 3 10 rfl (sd 3 rfl)
      exact Runs.len Try.underlying22 rfl h10 ⟨Ext.refl _, rfl⟩
    · refine stepE rfl fun sdn sa sw sE sd sk => ?_
      have h0 : sa.eval (.tmp 0) = .pointer (some ⟨q, 0, none⟩) := sk.old 0 rfl
      exact Runs.move rfl h0 ⟨Ext.refl _, rfl⟩
    · refine stepE rfl fun sdn sa sw sE sd sk => ?_
      have h12 : sa.eval (.tmp 12) = .pointer (some ⟨q, 0, none⟩) := sk.fact 5 12 rfl (sd 5 rfl)
      exact Runs.nil_ rfl h12 ⟨Ext.refl _, rfl⟩
    · refine stepE rfl fun sdn sa sw sE sd sk => ?_
      have h13 : sa.eval (.tmp 13) = .pointer (some ⟨q, 0, none⟩) := sk.fact 6 13 rfl (sd 6 rfl)
      refine Runs.of_run (r := .pointer (some ⟨q, 1, none⟩)) (w' := sw) ?_ ⟨Ext.refl _, rfl⟩
      unfold execOp
      simp only [h13]
      go_simp
    · refine stepE rfl fun sdn sa sw sE sd sk => ?_
      have h14 : sa.eval (.tmp 14) = .pointer (some ⟨q, 1, none⟩) := sk.fact 7 14 rfl (sd 7 rfl)
      exact Runs.load rfl h14 (run_load1 Try.underlying3 rfl ((hb.ext sE).cell (i := 1) rfl)) ⟨Ext.refl _, rfl⟩
    · refine stepE rfl fun sdn sa sw sE sd sk => ?_
      have h11 : sa.eval (.tmp 11) = .int .i64 ((n : Nat)) := sk.fact 4 11 rfl (sd 4 rfl)
      have h15 : sa.eval (.tmp 15) = .int .i64 ((At : Int)) := sk.fact 8 15 rfl (sd 8 rfl)
      exact Runs.bin rfl h11 h15 (eqGuard_bin rfl) (bin_sub64 _ _ _ (by omega) (by omega)) ⟨Ext.refl _, rfl⟩
    intro vals W3 hE3 hv3
    have e0 : vals 0 = .pointer (some ⟨q, 0, none⟩) := hv3 0 (by omega) 7 rfl
    have e1 : vals 1 = .pointer (some ⟨q, 0, none⟩) := hv3 1 (by omega) 8 rfl
    have e2 : vals 2 = .pointer (some ⟨q, 0, none⟩) := hv3 2 (by omega) 9 rfl
    have e3 : vals 3 = .slice (A) (n) (c) := hv3 3 (by omega) 10 rfl
    have e4 : vals 4 = .int .i64 ((n : Nat)) := hv3 4 (by omega) 11 rfl
    have e5 : vals 5 = .pointer (some ⟨q, 0, none⟩) := hv3 5 (by omega) 12 rfl
    have e6 : vals 6 = .pointer (some ⟨q, 0, none⟩) := hv3 6 (by omega) 13 rfl
    have e7 : vals 7 = .pointer (some ⟨q, 1, none⟩) := hv3 7 (by omega) 14 rfl
    have e8 : vals 8 = .int .i64 ((At : Int)) := hv3 8 (by omega) 15 rfl
    have e9 : vals 9 = .int .i64 ((n : Nat) - (At : Int)) := hv3 9 (by omega) 16 rfl
    simp only [putAll, Act.put, List.take_succ_cons, List.take_zero, List.drop_succ_cons, List.drop_zero, List.drop_nil, List.take_nil, Nat.reduceAdd, List.setIfInBounds_toArray, List.set_cons_succ, List.set_cons_zero, e0, e1, e2, e3, e4, e5, e6, e7, e8, e9]
    clear hv3 e0 e1 e2 e3 e4 e5 e6 e7 e8 e9
    go_wp2_with fail
    go_ret
    exact ⟨by rw [Hv.out]; rfl, hE3⟩
set_option maxHeartbeats 8000000 in
theorem reads10_any (A : Option Addr) (n c : Nat) (L : List UInt8) (w : World) (rb : RB w A n c L) (hn : n ≤ 140737488355328) :
    Calls Try.prog 31 #[.slice A n c] w fun e w' => e = .returned (.bool true) ∧ Ext w w' := by
  go_enter Try.func31, Try.ntmps31
  go_wp2_with fail
  refine (rread_any A n c L w rb hn).mono ?_
  rintro e w1 ⟨q, rfl, hR, hEa⟩
  have hE1s := hEa.size
  replace rb := rb.ext hEa
  have hblt : 0 < n → ∀ k, blk A = some k → k < w1.heap.size := fun h0 k hk => rb_blk_lt rb h0 k hk
  have hEn := Ext.new w1 (.cells #[.slice A n c, .int .i64 0, .bool false] 98)
  have hBr := Blk.new w1 98 #[.slice A n c, .int .i64 ((0 : Nat) : Int), .bool false]
  have hQ : RR (w1.alloc (.cells #[.slice A n c, .int .i64 0, .bool false] 98)) w1.heap.size w1.heap.size L false :=
    ⟨A, n, c, 0, L, hBr, rb.ext hEn, Nat.zero_le _, hn, Nat.le_refl _, fun _ => rfl, (fun h => by cases h), hblt⟩
  replace rb := rb.ext hEn
  replace hR := hR.later hEn
  replace hEa := hEa.trans hEn
  have hqw := hR.blk_.1
  have hq1 := hR.lt_
  clear hEn hBr hblt
  go_wp2_with fail
  generalize w1.alloc (.cells #[.slice A n c, .int .i64 0, .bool false] 98) = w2 at *
  generalize hqr0 : w1.heap.size = qr at *
  have hqw1 : w.heap.size ≤ qr := hE1s
  clear hqr0
  refine (cget_any w2 _ q L false hR).mono ?_
  rintro e w3 ⟨hyes, hno, hR3, hG⟩
  obtain ⟨_, cs, hBq, hnoq⟩ := hR.blk_
  replace rb := rb.grown hG (rb.apart5 hBq hnoq)
  replace hQ := hQ.away hBq (by decide) hnoq hG
  replace hEa := hEa.then_grown hG (by intro k hk; cases hk; exact hqw)
  clear hG hBq hnoq hR
  have hqr := hQ.lt
  have hdk : dOK L = (gOK L false && (!(gS3 L false).2 && (gS3 L false).1.isEmpty)) := rfl
  have hrc := fun w h => rcget_any w qr qr L false h
  have hdc := fun w h => cdecode_any A n c L w h hn
  have Hrc := Lib.hid hrc
  have Hdc := Lib.hid hdc
  clear hrc hdc
  generalize decX (gY L false) = dx at *
  generalize decP (gY L false) = PS at *
  generalize decQ (gY L false) = QS at *
  generalize gS3 L false = s3 at *
  generalize gX L false = x at *
  generalize gR L false = R at *
  cases hg : gOK L false with
  | true =>
    obtain ⟨Bx, bx, Px, px, Qx, qx, rfl, rRx, oPx, oQx⟩ := hyes hg
    rw [hg, Bool.true_and] at hdk
    have Hdk := Lib.hid hdk
    have hEn := Ext.new w3 (.cells #[.int .i64 x, .slice Bx 32 bx, .int .i64 dx, .slice Px 64 px, .slice Qx 4 qx] 41)
    have hB5 := Blk.new w3 41 #[.int .i64 x, .slice Bx 32 bx, .int .i64 dx, .slice Px 64 px, .slice Qx 4 qx]
    replace rb := rb.ext hEn
    replace hQ := hQ.later hEn
    replace hR3 := hR3.later hEn
    replace rRx := rRx.ext hEn
    replace oPx := oPx.ext hEn
    replace oQx := oQx.ext hEn
    replace hEa := hEa.trans hEn
    clear hyes hno hEn hdk
    have Hg := Lib.hid hg
    clear hg
    go_wp2_with fail
    obtain ⟨g5, hg5⟩ : ∃ g5, g5 = w3.heap.size := ⟨_, rfl⟩
    rw [← hg5] at hB5 hqr ⊢
    clear hg5
    generalize w3.alloc (.cells #[.int .i64 x, .slice Bx 32 bx, .int .i64 dx, .slice Px 64 px, .slice Qx 4 qx] 41) = w4 at *
    refine (Hrc.out w4 hQ).mono ?_
    rintro e w5 ⟨hyes, hno, hQ5, hG⟩
    obtain ⟨By, b_y, Py, py, Qy, qy, rfl, rRy, rPy, rQy⟩ := hyes Hg.out
    obtain ⟨cs, hBq, hnoq⟩ := hQ.blk_
    replace rb := rb.grown hG (rb.apart5 hBq hnoq)
    replace hR3 := hR3.away hBq (by decide) hnoq hG
    replace hB5 := hB5.grown hG (by intro e; injection e with e; omega)
    replace rRx := rRx.grown hG (rRx.apart5 hBq hnoq)
    replace oPx := oPx.far hBq (by decide) hnoq hG
    replace oQx := oQx.far hBq (by decide) hnoq hG
    replace hEa := hEa.then_grown hG (by intro k hk; cases hk; exact hqw1)
    have hEn := Ext.new w5 (.cells #[.int .i64 x, .slice By 32 b_y, .int .i64 dx, .slice Py 64 py, .slice Qy 4 qy] 41)
    have hB7 := Blk.new w5 41 #[.int .i64 x, .slice By 32 b_y, .int .i64 dx, .slice Py 64 py, .slice Qy 4 qy]
    replace rb := rb.ext hEn
    replace hB5 := hB5.ext hEn
    replace hR3 := hR3.later hEn
    replace hQ5 := hQ5.later hEn
    replace rRx := rRx.ext hEn
    replace oPx := oPx.ext hEn
    replace oQx := oQx.ext hEn
    replace rRy := rRy.ext hEn
    replace rPy := rPy.ext hEn
    replace rQy := rQy.ext hEn
    replace hEa := hEa.trans hEn
    clear hyes hno hEn hG hQ hBq hnoq Hrc
    go_wp2_with fail
    generalize w5.alloc (.cells #[.int .i64 x, .slice By 32 b_y, .int .i64 dx, .slice Py 64 py, .slice Qy 4 qy] 41) = w6 at *
    generalize w5.heap.size = g7 at *
    refine (Hdc.out w6 rb).mono ?_
    rintro e w7 ⟨hyes, hno, hE⟩
    clear Hdc rb
    cases hz : (!s3.2 && s3.1.isEmpty) with
    | true =>
      have he : dOK L = true := by rw [Hdk.out]; exact hz
      obtain ⟨Bz, bz, Pz, pz, Qz, qz, rfl, rRz, rPz, rQz⟩ := hyes he
      have hEn := Ext.new w7 (.cells #[.int .i64 x, .slice Bz 32 bz, .int .i64 dx, .slice Pz 64 pz, .slice Qz 4 qz] 41)
      have hB9 := Blk.new w7 41 #[.int .i64 x, .slice Bz 32 bz, .int .i64 dx, .slice Pz 64 pz, .slice Qz 4 qz]
      replace hE := hE.trans hEn
      replace hB5 := hB5.ext hE
      replace hB7 := hB7.ext hE
      replace hR3 := hR3.later hE
      replace hQ5 := hQ5.later hE
      replace rRx := rRx.ext hE
      replace oPx := oPx.ext hE
      replace oQx := oQx.ext hE
      replace rRy := rRy.ext hE
      replace rPy := rPy.ext hE
      replace rQy := rQy.ext hE
      replace rRz := rRz.ext hEn
      replace rPz := rPz.ext hEn
      replace rQz := rQz.ext hEn
      replace hEa := hEa.trans hE
      clear hyes hno hE hEn he
      have hend := r1end_any _ _ qr _ _ hQ5
      rw [hz] at hend
      have Hend := Lib.hid hend
      clear hend hz
      go_wp2_with fail
      generalize w7.alloc (.cells #[.int .i64 x, .slice Bz 32 bz, .int .i64 dx, .slice Pz 64 pz, .slice Qz 4 qz] 41) = w8 at *
      generalize w7.heap.size = g9 at *
      refine Hend.out.mono ?_
      rintro e w9 ⟨rfl, hE⟩
      replace hB5 := hB5.ext hE
      replace hB7 := hB7.ext hE
      replace hB9 := hB9.ext hE
      replace hR3 := hR3.later hE
      replace hQ5 := hQ5.later hE
      replace rRx := rRx.ext hE
      replace oPx := oPx.ext hE
      replace oQx := oQx.ext hE
      replace rRy := rRy.ext hE
      replace rPy := rPy.ext hE
      replace rQy := rQy.ext hE
      replace rRz := rRz.ext hE
      replace rPz := rPz.ext hE
      replace rQz := rQz.ext hE
      replace hEa := hEa.trans hE
      have rPx := oPx.rbb
      have rQx := oQx.rbb
      clear hE Hend
      go_upto_region 8 with (fail)
      refine seq_ext (n := 38) (by kernel_rfl) [.is (.bool (true)), .is (.bool (true)), .is (.bool (false)), .is (.bool (false)), .is (.agg #[.int .i64 (x), .slice (Bx) (32) (bx), .int .i64 (dx), .slice (Px) (64) (px), .slice (Qx) (4) (qx)]), .is (.agg #[.int .i64 (x), .slice (By) (32) (b_y), .int .i64 (dx), .slice (Py) (64) (py), .slice (Qy) (4) (qy)]), .is (.bool (true)), .is (.bool (false)), .is (.bool (false)), .is (.bool (false)), .is (.int .i64 ((0 : Int))), .is (.bool (true)), .is (.bool (true)), .is (.bool (false)), .is (.bool (false)), .is (.bool (false)), .is (.bool (true)), .is (.bool (false)), .is (.bool (false)), .is undef, .is undef, .is undef, .is undef, .is undef, .is undef, .is undef, .is undef, .is (.bool (false)), .is (.bool (false)), .is (.bool (false)), .is (.bool (true)), .is (.bool (true)), .is (.agg #[.int .i64 (x), .slice (Bz) (32) (bz), .int .i64 (dx), .slice (Pz) (64) (pz), .slice (Qz) (4) (qz)]), .is (.agg #[.int .i64 (x), .slice (By) (32) (b_y), .int .i64 (dx), .slice (Py) (64) (py), .slice (Qy) (4) (qy)]), .is (.bool (true)), .is (.bool (false)), .is (.bool (false)), .is (.bool (false))] rfl ⟨?_, ?_, ?_, ?_, ?_, ?_, ?_, ?_, ?_, ?_, ?_, ?_, ?_, ?_, ?_, ?_, ?_, ?_, ?_, ?_, ?_, ?_, ?_, ?_, ?_, ?_, ?_, ?_, ?_, ?_, ?_, ?_, ?_, ?_, ?_, ?_, ?_, ?_, trivial⟩ ?_
      · refine stepE rfl fun sdn sa sw sE sd sk => ?_
        have h6 : sa.eval (.tmp 6) = .bool (true) := sk.old 6 rfl
        exact Runs.move rfl h6 ⟨Ext.refl _, rfl⟩
      · refine stepE rfl fun sdn sa sw sE sd sk => ?_
        have h8 : sa.eval (.tmp 8) = .bool (true) := sk.old 8 rfl
        exact Runs.move rfl h8 ⟨Ext.refl _, rfl⟩
      · refine stepE rfl fun sdn sa sw sE sd sk => ?_
        have h39 : sa.eval (.tmp 39) = .bool (true) := sk.fact 0 39 rfl (sd 0 rfl)
        have h40 : sa.eval (.tmp 40) = .bool (true) := sk.fact 1 40 rfl (sd 1 rfl)
        exact Runs.bin rfl h39 h40 (by rfl) (bin_neb _ _) ⟨Ext.refl _, congrArg Value.bool (by decide)⟩
      · refine stepE rfl fun sdn sa sw sE sd sk => ?_
        have h41 : sa.eval (.tmp 41) = .bool (false) := sk.fact 2 41 rfl (sd 2 rfl)
        exact Runs.move rfl h41 ⟨Ext.refl _, rfl⟩
      · refine stepY (j := 3) (d := 42) (b := false) rfl rfl rfl (fun v w h => h) fun sdn sa sw sE sd sk => ?_
        have h5 : sa.eval (.tmp 5) = .pointer (some ⟨g5, 0, none⟩) := sk.old 5 rfl
        exact Runs.load rfl h5 (load_part (hB5.ext sE) 0 (vs := [.int .i64 (x), .slice (Bx) (32) (bx), .int .i64 (dx), .slice (Px) (64) (px), .slice (Qx) (4) (qx)]) rfl Try.underlying41 rfl (by kernel_rfl)) ⟨Ext.refl _, rfl⟩
      · refine stepY (j := 3) (d := 42) (b := false) rfl rfl rfl (fun v w h => h) fun sdn sa sw sE sd sk => ?_
        have h7 : sa.eval (.tmp 7) = .pointer (some ⟨g7, 0, none⟩) := sk.old 7 rfl
        exact Runs.load rfl h7 (load_part (hB7.ext sE) 0 (vs := [.int .i64 (x), .slice (By) (32) (b_y), .int .i64 (dx), .slice (Py) (64) (py), .slice (Qy) (4) (qy)]) rfl Try.underlying41 rfl (by kernel_rfl)) ⟨Ext.refl _, rfl⟩
      · refine stepY (j := 3) (d := 42) (b := false) rfl rfl rfl (fun v w h => h) fun sdn sa sw sE sd sk => ?_
        have h43 : sa.eval (.tmp 43) = .agg #[.int .i64 (x), .slice (Bx) (32) (bx), .int .i64 (dx), .slice (Px) (64) (px), .slice (Qx) (4) (qx)] := sk.fact 4 43 rfl (sd 4 rfl)
        have h44 : sa.eval (.tmp 44) = .agg #[.int .i64 (x), .slice (By) (32) (b_y), .int .i64 (dx), .slice (Py) (64) (py), .slice (Qy) (4) (qy)] := sk.fact 5 44 rfl (sd 5 rfl)
        refine Runs.call (f := 27) (vs := [.agg #[.int .i64 (x), .slice (Bx) (32) (bx), .int .i64 (dx), .slice (Px) (64) (px), .slice (Qx) (4) (qx)], .agg #[.int .i64 (x), .slice (By) (32) (b_y), .int .i64 (dx), .slice (Py) (64) (py), .slice (Qy) (4) (qy)]]) rfl rfl rfl (by simp only [List.map_toArray, List.map_cons, List.map_nil, h43, h44] <;> rfl) (ent27 _ _) ((eq10_true _ _ _ _ _ _ _ _ _ _ _ _ _ _ _ _ _ _ _ _ _ _ _ sw (rRx.ext sE) (rPx.ext sE) (rQx.ext sE) (rRy.ext sE) (rPy.ext sE) (rQy.ext sE)).mono ?_); rintro e w' ⟨rfl, hx⟩; exact ⟨_, rfl, hx, rfl⟩
      · refine stepY (j := 3) (d := 42) (b := false) rfl rfl rfl (fun v w h => h) fun sdn sa sw sE sd sk => ?_
        have h45 : sa.eval (.tmp 45) = .bool (true) := sk.fact 6 45 rfl (sd 6 rfl)
        exact Runs.un rfl h45 (by rfl) ⟨Ext.refl _, rfl⟩
      · refine stepE rfl fun sdn sa sw sE sd sk => ?_
        have h42 : sa.eval (.tmp 42) = .bool (false) := sk.fact 3 42 rfl (sd 3 rfl)
        have h46 : sa.eval (.tmp 46) = .bool (false) := sk.fact 7 46 rfl (sd 7 rfl)
        exact Runs.pick rfl h42 ⟨Ext.refl _, by first | exact h46 | simpa using h46⟩
      · refine stepE rfl fun sdn sa sw sE sd sk => ?_
        have h47 : sa.eval (.tmp 47) = .bool (false) := sk.fact 8 47 rfl (sd 8 rfl)
        exact Runs.move rfl h47 ⟨Ext.refl _, rfl⟩
      · refine stepY (j := 9) (d := 48) (b := false) rfl rfl rfl (fun v w h => h) fun sdn sa sw sE sd sk => ?_
        have h10 : sa.eval (.tmp 10) = .int .i64 ((0 : Int)) := sk.old 10 rfl
        exact Runs.move rfl h10 ⟨Ext.refl _, rfl⟩
      · refine stepY (j := 9) (d := 48) (b := false) rfl rfl rfl (fun v w h => h) fun sdn sa sw sE sd sk => ?_
        have h49 : sa.eval (.tmp 49) = .int .i64 ((0 : Int)) := sk.fact 10 49 rfl (sd 10 rfl)
        exact Runs.bin rfl h49 rfl (by rfl) (bin_eql _ _ _ _) ⟨Ext.refl _, congrArg Value.bool (by decide)⟩
      · refine stepY (j := 9) (d := 48) (b := false) rfl rfl rfl (fun v w h => h) fun sdn sa sw sE sd sk => ?_
        have h11 : sa.eval (.tmp 11) = .bool (true) := sk.old 11 rfl
        exact Runs.move rfl h11 ⟨Ext.refl _, rfl⟩
      · refine stepY (j := 9) (d := 48) (b := false) rfl rfl rfl (fun v w h => h) fun sdn sa sw sE sd sk => ?_
        have h50 : sa.eval (.tmp 50) = .bool (true) := sk.fact 11 50 rfl (sd 11 rfl)
        have h51 : sa.eval (.tmp 51) = .bool (true) := sk.fact 12 51 rfl (sd 12 rfl)
        exact Runs.bin rfl h50 h51 (by rfl) (bin_neb _ _) ⟨Ext.refl _, congrArg Value.bool (by decide)⟩
      · refine stepE rfl fun sdn sa sw sE sd sk => ?_
        have h48 : sa.eval (.tmp 48) = .bool (false) := sk.fact 9 48 rfl (sd 9 rfl)
        have h52 : sa.eval (.tmp 52) = .bool (false) := sk.fact 13 52 rfl (sd 13 rfl)
        exact Runs.pick rfl h48 ⟨Ext.refl _, by first | exact h52 | simpa using h52⟩
      · refine stepE rfl fun sdn sa sw sE sd sk => ?_
        have h53 : sa.eval (.tmp 53) = .bool (false) := sk.fact 14 53 rfl (sd 14 rfl)
        exact Runs.move rfl h53 ⟨Ext.refl _, rfl⟩
      · refine stepY (j := 15) (d := 54) (b := false) rfl rfl rfl (fun v w h => h) fun sdn sa sw sE sd sk => ?_
        have h11 : sa.eval (.tmp 11) = .bool (true) := sk.old 11 rfl
        exact Runs.move rfl h11 ⟨Ext.refl _, rfl⟩
      · refine stepY (j := 15) (d := 54) (b := false) rfl rfl rfl (fun v w h => h) fun sdn sa sw sE sd sk => ?_
        have h55 : sa.eval (.tmp 55) = .bool (true) := sk.fact 16 55 rfl (sd 16 rfl)
        exact Runs.un rfl h55 (by rfl) ⟨Ext.refl _, rfl⟩
      · refine stepY (j := 15) (d := 54) (b := false) rfl rfl rfl (fun v w h => h) fun sdn sa sw sE sd sk => ?_
        have h56 : sa.eval (.tmp 56) = .bool (false) := sk.fact 17 56 rfl (sd 17 rfl)
        exact Runs.move rfl h56 ⟨Ext.refl _, rfl⟩
      · exact stepN (j := 18) (d := 57) (b := false) rfl rfl rfl (fun v w h => h) fun w => rfl
      · exact stepN (j := 18) (d := 57) (b := false) rfl rfl rfl (fun v w h => h) fun w => rfl
      · exact stepN (j := 18) (d := 57) (b := false) rfl rfl rfl (fun v w h => h) fun w => rfl
      · exact stepU (j := 21) (d := 60) (b := false) rfl rfl rfl (fun v w h => h) fun w => rfl
      · exact stepU (j := 21) (d := 60) (b := false) rfl rfl rfl (fun v w h => h) fun w => rfl
      · exact stepU (j := 21) (d := 60) (b := false) rfl rfl rfl (fun v w h => h) fun w => rfl
      · exact stepU (j := 21) (d := 60) (b := false) rfl rfl rfl (fun v w h => h) fun w => rfl
      · exact stepN (j := 18) (d := 57) (b := false) rfl rfl rfl (fun v w h => h) fun w => rfl
      · refine stepY (j := 15) (d := 54) (b := false) rfl rfl rfl (fun v w h => h) fun sdn sa sw sE sd sk => ?_
        have h57 : sa.eval (.tmp 57) = .bool (false) := sk.fact 18 57 rfl (sd 18 rfl)
        exact Runs.pick rfl h57 ⟨Ext.refl _, rfl⟩
      · refine stepE rfl fun sdn sa sw sE sd sk => ?_
        have h54 : sa.eval (.tmp 54) = .bool (false) := sk.fact 15 54 rfl (sd 15 rfl)
        have h66 : sa.eval (.tmp 66) = .bool (false) := sk.fact 27 66 rfl (sd 27 rfl)
        exact Runs.pick rfl h54 ⟨Ext.refl _, by first | exact h66 | simpa using h66⟩
      · refine stepE rfl fun sdn sa sw sE sd sk => ?_
        have h67 : sa.eval (.tmp 67) = .bool (false) := sk.fact 28 67 rfl (sd 28 rfl)
        exact Runs.move rfl h67 ⟨Ext.refl _, rfl⟩
      · refine stepY (j := 29) (d := 68) (b := false) rfl rfl rfl (fun v w h => h) fun sdn sa sw sE sd sk => ?_
        have h11 : sa.eval (.tmp 11) = .bool (true) := sk.old 11 rfl
        exact Runs.move rfl h11 ⟨Ext.refl _, rfl⟩
      · refine stepY (j := 29) (d := 68) (b := false) rfl rfl rfl (fun v w h => h) fun sdn sa sw sE sd sk => ?_
        have h69 : sa.eval (.tmp 69) = .bool (true) := sk.fact 30 69 rfl (sd 30 rfl)
        exact Runs.move rfl h69 ⟨Ext.refl _, rfl⟩
      · refine stepY (j := 31) (d := 70) (b := true) rfl rfl rfl (fun v w h => h) fun sdn sa sw sE sd sk => ?_
        have h9 : sa.eval (.tmp 9) = .pointer (some ⟨g9, 0, none⟩) := sk.old 9 rfl
        exact Runs.load rfl h9 (load_part (hB9.ext sE) 0 (vs := [.int .i64 (x), .slice (Bz) (32) (bz), .int .i64 (dx), .slice (Pz) (64) (pz), .slice (Qz) (4) (qz)]) rfl Try.underlying41 rfl (by kernel_rfl)) ⟨Ext.refl _, rfl⟩
      · refine stepY (j := 31) (d := 70) (b := true) rfl rfl rfl (fun v w h => h) fun sdn sa sw sE sd sk => ?_
        have h7 : sa.eval (.tmp 7) = .pointer (some ⟨g7, 0, none⟩) := sk.old 7 rfl
        exact Runs.load rfl h7 (load_part (hB7.ext sE) 0 (vs := [.int .i64 (x), .slice (By) (32) (b_y), .int .i64 (dx), .slice (Py) (64) (py), .slice (Qy) (4) (qy)]) rfl Try.underlying41 rfl (by kernel_rfl)) ⟨Ext.refl _, rfl⟩
      · refine stepY (j := 31) (d := 70) (b := true) rfl rfl rfl (fun v w h => h) fun sdn sa sw sE sd sk => ?_
        have h71 : sa.eval (.tmp 71) = .agg #[.int .i64 (x), .slice (Bz) (32) (bz), .int .i64 (dx), .slice (Pz) (64) (pz), .slice (Qz) (4) (qz)] := sk.fact 32 71 rfl (sd 32 rfl)
        have h72 : sa.eval (.tmp 72) = .agg #[.int .i64 (x), .slice (By) (32) (b_y), .int .i64 (dx), .slice (Py) (64) (py), .slice (Qy) (4) (qy)] := sk.fact 33 72 rfl (sd 33 rfl)
        refine Runs.call (f := 27) (vs := [.agg #[.int .i64 (x), .slice (Bz) (32) (bz), .int .i64 (dx), .slice (Pz) (64) (pz), .slice (Qz) (4) (qz)], .agg #[.int .i64 (x), .slice (By) (32) (b_y), .int .i64 (dx), .slice (Py) (64) (py), .slice (Qy) (4) (qy)]]) rfl rfl rfl (by simp only [List.map_toArray, List.map_cons, List.map_nil, h71, h72] <;> rfl) (ent27 _ _) ((eq10_true _ _ _ _ _ _ _ _ _ _ _ _ _ _ _ _ _ _ _ _ _ _ _ sw (rRz.ext sE) (rPz.ext sE) (rQz.ext sE) (rRy.ext sE) (rPy.ext sE) (rQy.ext sE)).mono ?_); rintro e w' ⟨rfl, hx⟩; exact ⟨_, rfl, hx, rfl⟩
      · refine stepY (j := 31) (d := 70) (b := true) rfl rfl rfl (fun v w h => h) fun sdn sa sw sE sd sk => ?_
        have h73 : sa.eval (.tmp 73) = .bool (true) := sk.fact 34 73 rfl (sd 34 rfl)
        exact Runs.un rfl h73 (by rfl) ⟨Ext.refl _, rfl⟩
      · refine stepY (j := 29) (d := 68) (b := false) rfl rfl rfl (fun v w h => h) fun sdn sa sw sE sd sk => ?_
        have h70 : sa.eval (.tmp 70) = .bool (true) := sk.fact 31 70 rfl (sd 31 rfl)
        have h74 : sa.eval (.tmp 74) = .bool (false) := sk.fact 35 74 rfl (sd 35 rfl)
        exact Runs.pick rfl h70 ⟨Ext.refl _, by first | exact h74 | simpa using h74⟩
      · refine stepE rfl fun sdn sa sw sE sd sk => ?_
        have h68 : sa.eval (.tmp 68) = .bool (false) := sk.fact 29 68 rfl (sd 29 rfl)
        have h75 : sa.eval (.tmp 75) = .bool (false) := sk.fact 36 75 rfl (sd 36 rfl)
        exact Runs.pick rfl h68 ⟨Ext.refl _, by first | exact h75 | simpa using h75⟩
      intro vals W8 hE8 hv8
      have e0 : vals 0 = .bool (true) := hv8 0 (by omega) 39 rfl
      have e1 : vals 1 = .bool (true) := hv8 1 (by omega) 40 rfl
      have e2 : vals 2 = .bool (false) := hv8 2 (by omega) 41 rfl
      have e3 : vals 3 = .bool (false) := hv8 3 (by omega) 42 rfl
      have e4 : vals 4 = .agg #[.int .i64 (x), .slice (Bx) (32) (bx), .int .i64 (dx), .slice (Px) (64) (px), .slice (Qx) (4) (qx)] := hv8 4 (by omega) 43 rfl
      have e5 : vals 5 = .agg #[.int .i64 (x), .slice (By) (32) (b_y), .int .i64 (dx), .slice (Py) (64) (py), .slice (Qy) (4) (qy)] := hv8 5 (by omega) 44 rfl
      have e6 : vals 6 = .bool (true) := hv8 6 (by omega) 45 rfl
      have e7 : vals 7 = .bool (false) := hv8 7 (by omega) 46 rfl
      have e8 : vals 8 = .bool (false) := hv8 8 (by omega) 47 rfl
      have e9 : vals 9 = .bool (false) := hv8 9 (by omega) 48 rfl
      have e10 : vals 10 = .int .i64 ((0 : Int)) := hv8 10 (by omega) 49 rfl
      have e11 : vals 11 = .bool (true) := hv8 11 (by omega) 50 rfl
      have e12 : vals 12 = .bool (true) := hv8 12 (by omega) 51 rfl
      have e13 : vals 13 = .bool (false) := hv8 13 (by omega) 52 rfl
      have e14 : vals 14 = .bool (false) := hv8 14 (by omega) 53 rfl
      have e15 : vals 15 = .bool (false) := hv8 15 (by omega) 54 rfl
      have e16 : vals 16 = .bool (true) := hv8 16 (by omega) 55 rfl
      have e17 : vals 17 = .bool (false) := hv8 17 (by omega) 56 rfl
      have e18 : vals 18 = .bool (false) := hv8 18 (by omega) 57 rfl
      have e27 : vals 27 = .bool (false) := hv8 27 (by omega) 66 rfl
      have e28 : vals 28 = .bool (false) := hv8 28 (by omega) 67 rfl
      have e29 : vals 29 = .bool (false) := hv8 29 (by omega) 68 rfl
      have e30 : vals 30 = .bool (true) := hv8 30 (by omega) 69 rfl
      have e31 : vals 31 = .bool (true) := hv8 31 (by omega) 70 rfl
      have e32 : vals 32 = .agg #[.int .i64 (x), .slice (Bz) (32) (bz), .int .i64 (dx), .slice (Pz) (64) (pz), .slice (Qz) (4) (qz)] := hv8 32 (by omega) 71 rfl
      have e33 : vals 33 = .agg #[.int .i64 (x), .slice (By) (32) (b_y), .int .i64 (dx), .slice (Py) (64) (py), .slice (Qy) (4) (qy)] := hv8 33 (by omega) 72 rfl
      have e34 : vals 34 = .bool (true) := hv8 34 (by omega) 73 rfl
      have e35 : vals 35 = .bool (false) := hv8 35 (by omega) 74 rfl
      have e36 : vals 36 = .bool (false) := hv8 36 (by omega) 75 rfl
      have e37 : vals 37 = .bool (false) := hv8 37 (by omega) 76 rfl
      simp only [putAll, Act.put, List.take_succ_cons, List.take_zero, List.drop_succ_cons, List.drop_zero, List.drop_nil, List.take_nil, Nat.reduceAdd, List.setIfInBounds_toArray, List.set_cons_succ, List.set_cons_zero, e0, e1, e2, e3, e4, e5, e6, e7, e8, e9, e10, e11, e12, e13, e14, e15, e16, e17, e18, e27, e28, e29, e30, e31, e32, e33, e34, e35, e36, e37]
      clear hv8 e0 e1 e2 e3 e4 e5 e6 e7 e8 e9 e10 e11 e12 e13 e14 e15 e16 e17 e18 e27 e28 e29 e30 e31 e32 e33 e34 e35 e36 e37
      replace hR3 := hR3.later hE8
      replace hQ5 := hQ5.later hE8
      replace hEa := hEa.trans hE8
      have hl1 := rleft_any _ _ q _ _ hR3
      have hl2 := r1left_any _ _ qr _ _ hQ5
      clear hE8
      go_wp2_with fail
      refine hl1.mono ?_
      rintro e _ ⟨rfl, rfl⟩
      go_wp2_with fail
      refine hl2.mono ?_
      rintro e w10 ⟨rfl, hE⟩
      go_wp2_with fail
      go_ret
      exact ⟨by simp, hEa.trans hE⟩
    | false =>
      have he : dOK L = false := by rw [Hdk.out]; exact hz
      obtain rfl := hno he
      have hEn := Ext.new w7 (.cells #[.int .i64 0, .slice none 0 0, .int .i64 0, .slice none 0 0, .slice none 0 0] 41)
      have hB9 := Blk.new w7 41 #[.int .i64 0, .slice none 0 0, .int .i64 0, .slice none 0 0, .slice none 0 0]
      replace hE := hE.trans hEn
      replace hB5 := hB5.ext hE
      replace hB7 := hB7.ext hE
      replace hR3 := hR3.later hE
      replace hQ5 := hQ5.later hE
      replace rRx := rRx.ext hE
      replace oPx := oPx.ext hE
      replace oQx := oQx.ext hE
      replace rRy := rRy.ext hE
      replace rPy := rPy.ext hE
      replace rQy := rQy.ext hE
      replace hEa := hEa.trans hE
      clear hyes hno hE hEn he
      have hend := r1end_any _ _ qr _ _ hQ5
      rw [hz] at hend
      have Hend := Lib.hid hend
      clear hend hz
      go_wp2_with fail
      generalize w7.alloc (.cells #[.int .i64 0, .slice none 0 0, .int .i64 0, .slice none 0 0, .slice none 0 0] 41) = w8 at *
      generalize w7.heap.size = g9 at *
      refine Hend.out.mono ?_
      rintro e w9 ⟨rfl, hE⟩
      replace hB5 := hB5.ext hE
      replace hB7 := hB7.ext hE
      replace hB9 := hB9.ext hE
      replace hR3 := hR3.later hE
      replace hQ5 := hQ5.later hE
      replace rRx := rRx.ext hE
      replace oPx := oPx.ext hE
      replace oQx := oQx.ext hE
      replace rRy := rRy.ext hE
      replace rPy := rPy.ext hE
      replace rQy := rQy.ext hE
      replace hEa := hEa.trans hE
      have rPx := oPx.rbb
      have rQx := oQx.rbb
      clear hE Hend
      go_upto_region 8 with (fail)
      refine seq_ext (n := 38) (by kernel_rfl) [.is (.bool (true)), .is (.bool (true)), .is (.bool (false)), .is (.bool (false)), .is (.agg #[.int .i64 (x), .slice (Bx) (32) (bx), .int .i64 (dx), .slice (Px) (64) (px), .slice (Qx) (4) (qx)]), .is (.agg #[.int .i64 (x), .slice (By) (32) (b_y), .int .i64 (dx), .slice (Py) (64) (py), .slice (Qy) (4) (qy)]), .is (.bool (true)), .is (.bool (false)), .is (.bool (false)), .is (.bool (false)), .is (.int .i64 ((12 : Int))), .is (.bool (false)), .is (.bool (false)), .is (.bool (false)), .is (.bool (false)), .is (.bool (false)), .is (.bool (false)), .is (.bool (true)), .is (.bool (true)), .is (.int .i64 ((12 : Int))), .is (.bool (false)), .is (.bool (false)), .is (.agg #[.int .i64 ((0 : Int)), .slice (none) (0) (0), .int .i64 ((0 : Int)), .slice (none) (0) (0), .slice (none) (0) (0)]), .is (.agg #[.int .i64 ((0 : Int)), .slice (none) (0) (0), .int .i64 ((0 : Int)), .slice (none) (0) (0), .slice (none) (0) (0)]), .is (.bool (true)), .is (.bool (false)), .is (.bool (false)), .is (.bool (false)), .is (.bool (false)), .is (.bool (false)), .is (.bool (false)), .is (.bool (false)), .is undef, .is undef, .is undef, .is undef, .is (.bool (false)), .is (.bool (false))] rfl ⟨?_, ?_, ?_, ?_, ?_, ?_, ?_, ?_, ?_, ?_, ?_, ?_, ?_, ?_, ?_, ?_, ?_, ?_, ?_, ?_, ?_, ?_, ?_, ?_, ?_, ?_, ?_, ?_, ?_, ?_, ?_, ?_, ?_, ?_, ?_, ?_, ?_, ?_, trivial⟩ ?_
      · refine stepE rfl fun sdn sa sw sE sd sk => ?_
        have h6 : sa.eval (.tmp 6) = .bool (true) := sk.old 6 rfl
        exact Runs.move rfl h6 ⟨Ext.refl _, rfl⟩
      · refine stepE rfl fun sdn sa sw sE sd sk => ?_
        have h8 : sa.eval (.tmp 8) = .bool (true) := sk.old 8 rfl
        exact Runs.move rfl h8 ⟨Ext.refl _, rfl⟩
      · refine stepE rfl fun sdn sa sw sE sd sk => ?_
        have h39 : sa.eval (.tmp 39) = .bool (true) := sk.fact 0 39 rfl (sd 0 rfl)
        have h40 : sa.eval (.tmp 40) = .bool (true) := sk.fact 1 40 rfl (sd 1 rfl)
        exact Runs.bin rfl h39 h40 (by rfl) (bin_neb _ _) ⟨Ext.refl _, congrArg Value.bool (by decide)⟩
      · refine stepE rfl fun sdn sa sw sE sd sk => ?_
        have h41 : sa.eval (.tmp 41) = .bool (false) := sk.fact 2 41 rfl (sd 2 rfl)
        exact Runs.move rfl h41 ⟨Ext.refl _, rfl⟩
      · refine stepY (j := 3) (d := 42) (b := false) rfl rfl rfl (fun v w h => h) fun sdn sa sw sE sd sk => ?_
        have h5 : sa.eval (.tmp 5) = .pointer (some ⟨g5, 0, none⟩) := sk.old 5 rfl
        exact Runs.load rfl h5 (load_part (hB5.ext sE) 0 (vs := [.int .i64 (x), .slice (Bx) (32) (bx), .int .i64 (dx), .slice (Px) (64) (px), .slice (Qx) (4) (qx)]) rfl Try.underlying41 rfl (by kernel_rfl)) ⟨Ext.refl _, rfl⟩
      · refine stepY (j := 3) (d := 42) (b := false) rfl rfl rfl (fun v w h => h) fun sdn sa sw sE sd sk => ?_
        have h7 : sa.eval (.tmp 7) = .pointer (some ⟨g7, 0, none⟩) := sk.old 7 rfl
        exact Runs.load rfl h7 (load_part (hB7.ext sE) 0 (vs := [.int .i64 (x), .slice (By) (32) (b_y), .int .i64 (dx), .slice (Py) (64) (py), .slice (Qy) (4) (qy)]) rfl Try.underlying41 rfl (by kernel_rfl)) ⟨Ext.refl _, rfl⟩
      · refine stepY (j := 3) (d := 42) (b := false) rfl rfl rfl (fun v w h => h) fun sdn sa sw sE sd sk => ?_
        have h43 : sa.eval (.tmp 43) = .agg #[.int .i64 (x), .slice (Bx) (32) (bx), .int .i64 (dx), .slice (Px) (64) (px), .slice (Qx) (4) (qx)] := sk.fact 4 43 rfl (sd 4 rfl)
        have h44 : sa.eval (.tmp 44) = .agg #[.int .i64 (x), .slice (By) (32) (b_y), .int .i64 (dx), .slice (Py) (64) (py), .slice (Qy) (4) (qy)] := sk.fact 5 44 rfl (sd 5 rfl)
        refine Runs.call (f := 27) (vs := [.agg #[.int .i64 (x), .slice (Bx) (32) (bx), .int .i64 (dx), .slice (Px) (64) (px), .slice (Qx) (4) (qx)], .agg #[.int .i64 (x), .slice (By) (32) (b_y), .int .i64 (dx), .slice (Py) (64) (py), .slice (Qy) (4) (qy)]]) rfl rfl rfl (by simp only [List.map_toArray, List.map_cons, List.map_nil, h43, h44] <;> rfl) (ent27 _ _) ((eq10_true _ _ _ _ _ _ _ _ _ _ _ _ _ _ _ _ _ _ _ _ _ _ _ sw (rRx.ext sE) (rPx.ext sE) (rQx.ext sE) (rRy.ext sE) (rPy.ext sE) (rQy.ext sE)).mono ?_); rintro e w' ⟨rfl, hx⟩; exact ⟨_, rfl, hx, rfl⟩
      · refine stepY (j := 3) (d := 42) (b := false) rfl rfl rfl (fun v w h => h) fun sdn sa sw sE sd sk => ?_
        have h45 : sa.eval (.tmp 45) = .bool (true) := sk.fact 6 45 rfl (sd 6 rfl)
        exact Runs.un rfl h45 (by rfl) ⟨Ext.refl _, rfl⟩
      · refine stepE rfl fun sdn sa sw sE sd sk => ?_
        have h42 : sa.eval (.tmp 42) = .bool (false) := sk.fact 3 42 rfl (sd 3 rfl)
        have h46 : sa.eval (.tmp 46) = .bool (false) := sk.fact 7 46 rfl (sd 7 rfl)
        exact Runs.pick rfl h42 ⟨Ext.refl _, by first | exact h46 | simpa using h46⟩
      · refine stepE rfl fun sdn sa sw sE sd sk => ?_
        have h47 : sa.eval (.tmp 47) = .bool (false) := sk.fact 8 47 rfl (sd 8 rfl)
        exact Runs.move rfl h47 ⟨Ext.refl _, rfl⟩
      · refine stepY (j := 9) (d := 48) (b := false) rfl rfl rfl (fun v w h => h) fun sdn sa sw sE sd sk => ?_
        have h10 : sa.eval (.tmp 10) = .int .i64 ((12 : Int)) := sk.old 10 rfl
        exact Runs.move rfl h10 ⟨Ext.refl _, rfl⟩
      · refine stepY (j := 9) (d := 48) (b := false) rfl rfl rfl (fun v w h => h) fun sdn sa sw sE sd sk => ?_
        have h49 : sa.eval (.tmp 49) = .int .i64 ((12 : Int)) := sk.fact 10 49 rfl (sd 10 rfl)
        exact Runs.bin rfl h49 rfl (by rfl) (bin_eql _ _ _ _) ⟨Ext.refl _, congrArg Value.bool (by decide)⟩
      · refine stepY (j := 9) (d := 48) (b := false) rfl rfl rfl (fun v w h => h) fun sdn sa sw sE sd sk => ?_
        have h11 : sa.eval (.tmp 11) = .bool (false) := sk.old 11 rfl
        exact Runs.move rfl h11 ⟨Ext.refl _, rfl⟩
      · refine stepY (j := 9) (d := 48) (b := false) rfl rfl rfl (fun v w h => h) fun sdn sa sw sE sd sk => ?_
        have h50 : sa.eval (.tmp 50) = .bool (false) := sk.fact 11 50 rfl (sd 11 rfl)
        have h51 : sa.eval (.tmp 51) = .bool (false) := sk.fact 12 51 rfl (sd 12 rfl)
        exact Runs.bin rfl h50 h51 (by rfl) (bin_neb _ _) ⟨Ext.refl _, congrArg Value.bool (by decide)⟩
      · refine stepE rfl fun sdn sa sw sE sd sk => ?_
        have h48 : sa.eval (.tmp 48) = .bool (false) := sk.fact 9 48 rfl (sd 9 rfl)
        have h52 : sa.eval (.tmp 52) = .bool (false) := sk.fact 13 52 rfl (sd 13 rfl)
        exact Runs.pick rfl h48 ⟨Ext.refl _, by first | exact h52 | simpa using h52⟩
      · refine stepE rfl fun sdn sa sw sE sd sk => ?_
        have h53 : sa.eval (.tmp 53) = .bool (false) := sk.fact 14 53 rfl (sd 14 rfl)
        exact Runs.move rfl h53 ⟨Ext.refl _, rfl⟩
      · refine stepY (j := 15) (d := 54) (b := false) rfl rfl rfl (fun v w h => h) fun sdn sa sw sE sd sk => ?_
        have h11 : sa.eval (.tmp 11) = .bool (false) := sk.old 11 rfl
        exact Runs.move rfl h11 ⟨Ext.refl _, rfl⟩
      · refine stepY (j := 15) (d := 54) (b := false) rfl rfl rfl (fun v w h => h) fun sdn sa sw sE sd sk => ?_
        have h55 : sa.eval (.tmp 55) = .bool (false) := sk.fact 16 55 rfl (sd 16 rfl)
        exact Runs.un rfl h55 (by rfl) ⟨Ext.refl _, rfl⟩
      · refine stepY (j := 15) (d := 54) (b := false) rfl rfl rfl (fun v w h => h) fun sdn sa sw sE sd sk => ?_
        have h56 : sa.eval (.tmp 56) = .bool (true) := sk.fact 17 56 rfl (sd 17 rfl)
        exact Runs.move rfl h56 ⟨Ext.refl _, rfl⟩
      · refine stepY (j := 18) (d := 57) (b := true) rfl rfl rfl (fun v w h => h) fun sdn sa sw sE sd sk => ?_
        have h10 : sa.eval (.tmp 10) = .int .i64 ((12 : Int)) := sk.old 10 rfl
        exact Runs.move rfl h10 ⟨Ext.refl _, rfl⟩
      · refine stepY (j := 18) (d := 57) (b := true) rfl rfl rfl (fun v w h => h) fun sdn sa sw sE sd sk => ?_
        have h58 : sa.eval (.tmp 58) = .int .i64 ((12 : Int)) := sk.fact 19 58 rfl (sd 19 rfl)
        exact Runs.bin rfl h58 rfl (by rfl) (bin_neq _ _ _ _) ⟨Ext.refl _, congrArg Value.bool (by decide)⟩
      · refine stepY (j := 18) (d := 57) (b := true) rfl rfl rfl (fun v w h => h) fun sdn sa sw sE sd sk => ?_
        have h59 : sa.eval (.tmp 59) = .bool (false) := sk.fact 20 59 rfl (sd 20 rfl)
        exact Runs.move rfl h59 ⟨Ext.refl _, rfl⟩
      · refine stepY (j := 21) (d := 60) (b := false) rfl rfl rfl (fun v w h => h) fun sdn sa sw sE sd sk => ?_
        have h9 : sa.eval (.tmp 9) = .pointer (some ⟨g9, 0, none⟩) := sk.old 9 rfl
        exact Runs.load rfl h9 (load_part (hB9.ext sE) 0 (vs := [.int .i64 ((0 : Int)), .slice (none) (0) (0), .int .i64 ((0 : Int)), .slice (none) (0) (0), .slice (none) (0) (0)]) rfl Try.underlying41 rfl (by kernel_rfl)) ⟨Ext.refl _, rfl⟩
      · refine stepY (j := 21) (d := 60) (b := false) rfl rfl rfl (fun v w h => h) fun sdn sa sw sE sd sk => ?_
        refine Runs.of_run (r := .agg #[.int .i64 ((0 : Int)), .slice (none) (0) (0), .int .i64 ((0 : Int)), .slice (none) (0) (0), .slice (none) (0) (0)]) (w' := sw) ?_ ⟨Ext.refl _, rfl⟩
        unfold execOp
        simp only [List.map_toArray, List.map_cons, List.map_nil]
        go_simp
      · refine stepY (j := 21) (d := 60) (b := false) rfl rfl rfl (fun v w h => h) fun sdn sa sw sE sd sk => ?_
        have h61 : sa.eval (.tmp 61) = .agg #[.int .i64 ((0 : Int)), .slice (none) (0) (0), .int .i64 ((0 : Int)), .slice (none) (0) (0), .slice (none) (0) (0)] := sk.fact 22 61 rfl (sd 22 rfl)
        have h62 : sa.eval (.tmp 62) = .agg #[.int .i64 ((0 : Int)), .slice (none) (0) (0), .int .i64 ((0 : Int)), .slice (none) (0) (0), .slice (none) (0) (0)] := sk.fact 23 62 rfl (sd 23 rfl)
        refine Runs.call (f := 27) (vs := [.agg #[.int .i64 ((0 : Int)), .slice (none) (0) (0), .int .i64 ((0 : Int)), .slice (none) (0) (0), .slice (none) (0) (0)], .agg #[.int .i64 ((0 : Int)), .slice (none) (0) (0), .int .i64 ((0 : Int)), .slice (none) (0) (0), .slice (none) (0) (0)]]) rfl rfl rfl (by simp only [List.map_toArray, List.map_cons, List.map_nil, h61, h62] <;> rfl) (ent27 _ _) ((eq10_true _ _ _ _ _ _ _ _ _ _ _ _ _ _ _ _ _ _ _ _ _ _ _ sw (RB.nil_ _) (RBB.nil_ _) (RBB.nil_ _) (RB.nil_ _) (RBB.nil_ _) (RBB.nil_ _)).mono ?_); rintro e w' ⟨rfl, hx⟩; exact ⟨_, rfl, hx, rfl⟩
      · refine stepY (j := 21) (d := 60) (b := false) rfl rfl rfl (fun v w h => h) fun sdn sa sw sE sd sk => ?_
        have h63 : sa.eval (.tmp 63) = .bool (true) := sk.fact 24 63 rfl (sd 24 rfl)
        exact Runs.un rfl h63 (by rfl) ⟨Ext.refl _, rfl⟩
      · refine stepY (j := 18) (d := 57) (b := true) rfl rfl rfl (fun v w h => h) fun sdn sa sw sE sd sk => ?_
        have h60 : sa.eval (.tmp 60) = .bool (false) := sk.fact 21 60 rfl (sd 21 rfl)
        have h64 : sa.eval (.tmp 64) = .bool (false) := sk.fact 25 64 rfl (sd 25 rfl)
        exact Runs.pick rfl h60 ⟨Ext.refl _, by first | exact h64 | simpa using h64⟩
      · refine stepY (j := 15) (d := 54) (b := false) rfl rfl rfl (fun v w h => h) fun sdn sa sw sE sd sk => ?_
        have h57 : sa.eval (.tmp 57) = .bool (true) := sk.fact 18 57 rfl (sd 18 rfl)
        have h65 : sa.eval (.tmp 65) = .bool (false) := sk.fact 26 65 rfl (sd 26 rfl)
        exact Runs.pick rfl h57 ⟨Ext.refl _, by first | exact h65 | simpa using h65⟩
      · refine stepE rfl fun sdn sa sw sE sd sk => ?_
        have h54 : sa.eval (.tmp 54) = .bool (false) := sk.fact 15 54 rfl (sd 15 rfl)
        have h66 : sa.eval (.tmp 66) = .bool (false) := sk.fact 27 66 rfl (sd 27 rfl)
        exact Runs.pick rfl h54 ⟨Ext.refl _, by first | exact h66 | simpa using h66⟩
      · refine stepE rfl fun sdn sa sw sE sd sk => ?_
        have h67 : sa.eval (.tmp 67) = .bool (false) := sk.fact 28 67 rfl (sd 28 rfl)
        exact Runs.move rfl h67 ⟨Ext.refl _, rfl⟩
      · refine stepY (j := 29) (d := 68) (b := false) rfl rfl rfl (fun v w h => h) fun sdn sa sw sE sd sk => ?_
        have h11 : sa.eval (.tmp 11) = .bool (false) := sk.old 11 rfl
        exact Runs.move rfl h11 ⟨Ext.refl _, rfl⟩
      · refine stepY (j := 29) (d := 68) (b := false) rfl rfl rfl (fun v w h => h) fun sdn sa sw sE sd sk => ?_
        have h69 : sa.eval (.tmp 69) = .bool (false) := sk.fact 30 69 rfl (sd 30 rfl)
        exact Runs.move rfl h69 ⟨Ext.refl _, rfl⟩
      · exact stepN (j := 31) (d := 70) (b := false) rfl rfl rfl (fun v w h => h) fun w => rfl
      · exact stepN (j := 31) (d := 70) (b := false) rfl rfl rfl (fun v w h => h) fun w => rfl
      · exact stepN (j := 31) (d := 70) (b := false) rfl rfl rfl (fun v w h => h) fun w => rfl
      · exact stepN (j := 31) (d := 70) (b := false) rfl rfl rfl (fun v w h => h) fun w => rfl
      · refine stepY (j := 29) (d := 68) (b := false) rfl rfl rfl (fun v w h => h) fun sdn sa sw sE sd sk => ?_
        have h70 : sa.eval (.tmp 70) = .bool (false) := sk.fact 31 70 rfl (sd 31 rfl)
        exact Runs.pick rfl h70 ⟨Ext.refl _, rfl⟩
      · refine stepE rfl fun sdn sa sw sE sd sk => ?_
        have h68 : sa.eval (.tmp 68) = .bool (false) := sk.fact 29 68 rfl (sd 29 rfl)
        have h75 : sa.eval (.tmp 75) = .bool (false) := sk.fact 36 75 rfl (sd 36 rfl)
        exact Runs.pick rfl h68 ⟨Ext.refl _, by first | exact h75 | simpa using h75⟩
      intro vals W8 hE8 hv8
      have e0 : vals 0 = .bool (true) := hv8 0 (by omega) 39 rfl
      have e1 : vals 1 = .bool (true) := hv8 1 (by omega) 40 rfl
      have e2 : vals 2 = .bool (false) := hv8 2 (by omega) 41 rfl
      have e3 : vals 3 = .bool (false) := hv8 3 (by omega) 42 rfl
      have e4 : vals 4 = .agg #[.int .i64 (x), .slice (Bx) (32) (bx), .int .i64 (dx), .slice (Px) (64) (px), .slice (Qx) (4) (qx)] := hv8 4 (by omega) 43 rfl
      have e5 : vals 5 = .agg #[.int .i64 (x), .slice (By) (32) (b_y), .int .i64 (dx), .slice (Py) (64) (py), .slice (Qy) (4) (qy)] := hv8 5 (by omega) 44 rfl
      have e6 : vals 6 = .bool (true) := hv8 6 (by omega) 45 rfl
      have e7 : vals 7 = .bool (false) := hv8 7 (by omega) 46 rfl
      have e8 : vals 8 = .bool (false) := hv8 8 (by omega) 47 rfl
      have e9 : vals 9 = .bool (false) := hv8 9 (by omega) 48 rfl
      have e10 : vals 10 = .int .i64 ((12 : Int)) := hv8 10 (by omega) 49 rfl
      have e11 : vals 11 = .bool (false) := hv8 11 (by omega) 50 rfl
      have e12 : vals 12 = .bool (false) := hv8 12 (by omega) 51 rfl
      have e13 : vals 13 = .bool (false) := hv8 13 (by omega) 52 rfl
      have e14 : vals 14 = .bool (false) := hv8 14 (by omega) 53 rfl
      have e15 : vals 15 = .bool (false) := hv8 15 (by omega) 54 rfl
      have e16 : vals 16 = .bool (false) := hv8 16 (by omega) 55 rfl
      have e17 : vals 17 = .bool (true) := hv8 17 (by omega) 56 rfl
      have e18 : vals 18 = .bool (true) := hv8 18 (by omega) 57 rfl
      have e19 : vals 19 = .int .i64 ((12 : Int)) := hv8 19 (by omega) 58 rfl
      have e20 : vals 20 = .bool (false) := hv8 20 (by omega) 59 rfl
      have e21 : vals 21 = .bool (false) := hv8 21 (by omega) 60 rfl
      have e22 : vals 22 = .agg #[.int .i64 ((0 : Int)), .slice (none) (0) (0), .int .i64 ((0 : Int)), .slice (none) (0) (0), .slice (none) (0) (0)] := hv8 22 (by omega) 61 rfl
      have e23 : vals 23 = .agg #[.int .i64 ((0 : Int)), .slice (none) (0) (0), .int .i64 ((0 : Int)), .slice (none) (0) (0), .slice (none) (0) (0)] := hv8 23 (by omega) 62 rfl
      have e24 : vals 24 = .bool (true) := hv8 24 (by omega) 63 rfl
      have e25 : vals 25 = .bool (false) := hv8 25 (by omega) 64 rfl
      have e26 : vals 26 = .bool (false) := hv8 26 (by omega) 65 rfl
      have e27 : vals 27 = .bool (false) := hv8 27 (by omega) 66 rfl
      have e28 : vals 28 = .bool (false) := hv8 28 (by omega) 67 rfl
      have e29 : vals 29 = .bool (false) := hv8 29 (by omega) 68 rfl
      have e30 : vals 30 = .bool (false) := hv8 30 (by omega) 69 rfl
      have e31 : vals 31 = .bool (false) := hv8 31 (by omega) 70 rfl
      have e36 : vals 36 = .bool (false) := hv8 36 (by omega) 75 rfl
      have e37 : vals 37 = .bool (false) := hv8 37 (by omega) 76 rfl
      simp only [putAll, Act.put, List.take_succ_cons, List.take_zero, List.drop_succ_cons, List.drop_zero, List.drop_nil, List.take_nil, Nat.reduceAdd, List.setIfInBounds_toArray, List.set_cons_succ, List.set_cons_zero, e0, e1, e2, e3, e4, e5, e6, e7, e8, e9, e10, e11, e12, e13, e14, e15, e16, e17, e18, e19, e20, e21, e22, e23, e24, e25, e26, e27, e28, e29, e30, e31, e36, e37]
      clear hv8 e0 e1 e2 e3 e4 e5 e6 e7 e8 e9 e10 e11 e12 e13 e14 e15 e16 e17 e18 e19 e20 e21 e22 e23 e24 e25 e26 e27 e28 e29 e30 e31 e36 e37
      replace hR3 := hR3.later hE8
      replace hQ5 := hQ5.later hE8
      replace hEa := hEa.trans hE8
      have hl1 := rleft_any _ _ q _ _ hR3
      have hl2 := r1left_any _ _ qr _ _ hQ5
      clear hE8
      go_wp2_with fail
      refine hl1.mono ?_
      rintro e _ ⟨rfl, rfl⟩
      go_wp2_with fail
      refine hl2.mono ?_
      rintro e w10 ⟨rfl, hE⟩
      go_wp2_with fail
      go_ret
      exact ⟨by simp, hEa.trans hE⟩
  | false =>
    obtain rfl := hno hg
    rw [hg, Bool.false_and] at hdk
    have Hdk := Lib.hid hdk
    have hEn := Ext.new w3 (.cells #[.int .i64 0, .slice none 0 0, .int .i64 0, .slice none 0 0, .slice none 0 0] 41)
    have hB5 := Blk.new w3 41 #[.int .i64 0, .slice none 0 0, .int .i64 0, .slice none 0 0, .slice none 0 0]
    replace rb := rb.ext hEn
    replace hQ := hQ.later hEn
    replace hR3 := hR3.later hEn
    replace hEa := hEa.trans hEn
    clear hyes hno hEn hdk
    have Hg := Lib.hid hg
    clear hg
    go_wp2_with fail
    obtain ⟨g5, hg5⟩ : ∃ g5, g5 = w3.heap.size := ⟨_, rfl⟩
    rw [← hg5] at hB5 hqr ⊢
    clear hg5
    generalize w3.alloc (.cells #[.int .i64 0, .slice none 0 0, .int .i64 0, .slice none 0 0, .slice none 0 0] 41) = w4 at *
    refine (Hrc.out w4 hQ).mono ?_
    rintro e w5 ⟨hyes, hno, hQ5, hG⟩
    obtain rfl := hno Hg.out
    obtain ⟨cs, hBq, hnoq⟩ := hQ.blk_
    replace rb := rb.grown hG (rb.apart5 hBq hnoq)
    replace hR3 := hR3.away hBq (by decide) hnoq hG
    replace hB5 := hB5.grown hG (by intro e; injection e with e; omega)
    replace hEa := hEa.then_grown hG (by intro k hk; cases hk; exact hqw1)
    have hEn := Ext.new w5 (.cells #[.int .i64 0, .slice none 0 0, .int .i64 0, .slice none 0 0, .slice none 0 0] 41)
    have hB7 := Blk.new w5 41 #[.int .i64 0, .slice none 0 0, .int .i64 0, .slice none 0 0, .slice none 0 0]
    replace rb := rb.ext hEn
    replace hB5 := hB5.ext hEn
    replace hR3 := hR3.later hEn
    replace hQ5 := hQ5.later hEn
    replace hEa := hEa.trans hEn
    clear hyes hno hEn hG hQ hBq hnoq Hrc
    go_wp2_with fail
    generalize w5.alloc (.cells #[.int .i64 0, .slice none 0 0, .int .i64 0, .slice none 0 0, .slice none 0 0] 41) = w6 at *
    generalize w5.heap.size = g7 at *
    refine (Hdc.out w6 rb).mono ?_
    rintro e w7 ⟨hyes, hno, hE⟩
    clear Hdc rb
    have he := Hdk.out
    obtain rfl := hno he
    have hEn := Ext.new w7 (.cells #[.int .i64 0, .slice none 0 0, .int .i64 0, .slice none 0 0, .slice none 0 0] 41)
    have hB9 := Blk.new w7 41 #[.int .i64 0, .slice none 0 0, .int .i64 0, .slice none 0 0, .slice none 0 0]
    replace hE := hE.trans hEn
    replace hB5 := hB5.ext hE
    replace hB7 := hB7.ext hE
    replace hR3 := hR3.later hE
    replace hQ5 := hQ5.later hE
    replace hEa := hEa.trans hE
    clear hyes hno hE hEn he
    go_upto_region 8 with (fail)
    generalize w7.alloc (.cells #[.int .i64 0, .slice none 0 0, .int .i64 0, .slice none 0 0, .slice none 0 0] 41) = w8 at *
    generalize w7.heap.size = g9 at *
    refine seq_ext (n := 38) (by kernel_rfl) [.is (.bool (false)), .is (.bool (false)), .is (.bool (false)), .is (.bool (false)), .is (.agg #[.int .i64 ((0 : Int)), .slice (none) (0) (0), .int .i64 ((0 : Int)), .slice (none) (0) (0), .slice (none) (0) (0)]), .is (.agg #[.int .i64 ((0 : Int)), .slice (none) (0) (0), .int .i64 ((0 : Int)), .slice (none) (0) (0), .slice (none) (0) (0)]), .is (.bool (true)), .is (.bool (false)), .is (.bool (false)), .is (.bool (false)), .is (.int .i64 ((12 : Int))), .is (.bool (false)), .is (.bool (false)), .is (.bool (false)), .is (.bool (false)), .is (.bool (false)), .is (.bool (false)), .is (.bool (true)), .is (.bool (true)), .is (.int .i64 ((12 : Int))), .is (.bool (false)), .is (.bool (false)), .is (.agg #[.int .i64 ((0 : Int)), .slice (none) (0) (0), .int .i64 ((0 : Int)), .slice (none) (0) (0), .slice (none) (0) (0)]), .is (.agg #[.int .i64 ((0 : Int)), .slice (none) (0) (0), .int .i64 ((0 : Int)), .slice (none) (0) (0), .slice (none) (0) (0)]), .is (.bool (true)), .is (.bool (false)), .is (.bool (false)), .is (.bool (false)), .is (.bool (false)), .is (.bool (false)), .is (.bool (false)), .is (.bool (false)), .is undef, .is undef, .is undef, .is undef, .is (.bool (false)), .is (.bool (false))] rfl ⟨?_, ?_, ?_, ?_, ?_, ?_, ?_, ?_, ?_, ?_, ?_, ?_, ?_, ?_, ?_, ?_, ?_, ?_, ?_, ?_, ?_, ?_, ?_, ?_, ?_, ?_, ?_, ?_, ?_, ?_, ?_, ?_, ?_, ?_, ?_, ?_, ?_, ?_, trivial⟩ ?_
    · refine stepE rfl fun sdn sa sw sE sd sk => ?_
      have h6 : sa.eval (.tmp 6) = .bool (false) := sk.old 6 rfl
      exact Runs.move rfl h6 ⟨Ext.refl _, rfl⟩
    · refine stepE rfl fun sdn sa sw sE sd sk => ?_
      have h8 : sa.eval (.tmp 8) = .bool (false) := sk.old 8 rfl
      exact Runs.move rfl h8 ⟨Ext.refl _, rfl⟩
    · refine stepE rfl fun sdn sa sw sE sd sk => ?_
      have h39 : sa.eval (.tmp 39) = .bool (false) := sk.fact 0 39 rfl (sd 0 rfl)
      have h40 : sa.eval (.tmp 40) = .bool (false) := sk.fact 1 40 rfl (sd 1 rfl)
      exact Runs.bin rfl h39 h40 (by rfl) (bin_neb _ _) ⟨Ext.refl _, congrArg Value.bool (by decide)⟩
    · refine stepE rfl fun sdn sa sw sE sd sk => ?_
      have h41 : sa.eval (.tmp 41) = .bool (false) := sk.fact 2 41 rfl (sd 2 rfl)
      exact Runs.move rfl h41 ⟨Ext.refl _, rfl⟩
    · refine stepY (j := 3) (d := 42) (b := false) rfl rfl rfl (fun v w h => h) fun sdn sa sw sE sd sk => ?_
      have h5 : sa.eval (.tmp 5) = .pointer (some ⟨g5, 0, none⟩) := sk.old 5 rfl
      exact Runs.load rfl h5 (load_part (hB5.ext sE) 0 (vs := [.int .i64 ((0 : Int)), .slice (none) (0) (0), .int .i64 ((0 : Int)), .slice (none) (0) (0), .slice (none) (0) (0)]) rfl Try.underlying41 rfl (by kernel_rfl)) ⟨Ext.refl _, rfl⟩
    · refine stepY (j := 3) (d := 42) (b := false) rfl rfl rfl (fun v w h => h) fun sdn sa sw sE sd sk => ?_
      have h7 : sa.eval (.tmp 7) = .pointer (some ⟨g7, 0, none⟩) := sk.old 7 rfl
      exact Runs.load rfl h7 (load_part (hB7.ext sE) 0 (vs := [.int .i64 ((0 : Int)), .slice (none) (0) (0), .int .i64 ((0 : Int)), .slice (none) (0) (0), .slice (none) (0) (0)]) rfl Try.underlying41 rfl (by kernel_rfl)) ⟨Ext.refl _, rfl⟩
    · refine stepY (j := 3) (d := 42) (b := false) rfl rfl rfl (fun v w h => h) fun sdn sa sw sE sd sk => ?_
      have h43 : sa.eval (.tmp 43) = .agg #[.int .i64 ((0 : Int)), .slice (none) (0) (0), .int .i64 ((0 : Int)), .slice (none) (0) (0), .slice (none) (0) (0)] := sk.fact 4 43 rfl (sd 4 rfl)
      have h44 : sa.eval (.tmp 44) = .agg #[.int .i64 ((0 : Int)), .slice (none) (0) (0), .int .i64 ((0 : Int)), .slice (none) (0) (0), .slice (none) (0) (0)] := sk.fact 5 44 rfl (sd 5 rfl)
      refine Runs.call (f := 27) (vs := [.agg #[.int .i64 ((0 : Int)), .slice (none) (0) (0), .int .i64 ((0 : Int)), .slice (none) (0) (0), .slice (none) (0) (0)], .agg #[.int .i64 ((0 : Int)), .slice (none) (0) (0), .int .i64 ((0 : Int)), .slice (none) (0) (0), .slice (none) (0) (0)]]) rfl rfl rfl (by simp only [List.map_toArray, List.map_cons, List.map_nil, h43, h44] <;> rfl) (ent27 _ _) ((eq10_true _ _ _ _ _ _ _ _ _ _ _ _ _ _ _ _ _ _ _ _ _ _ _ sw (RB.nil_ _) (RBB.nil_ _) (RBB.nil_ _) (RB.nil_ _) (RBB.nil_ _) (RBB.nil_ _)).mono ?_); rintro e w' ⟨rfl, hx⟩; exact ⟨_, rfl, hx, rfl⟩
    · refine stepY (j := 3) (d := 42) (b := false) rfl rfl rfl (fun v w h => h) fun sdn sa sw sE sd sk => ?_
      have h45 : sa.eval (.tmp 45) = .bool (true) := sk.fact 6 45 rfl (sd 6 rfl)
      exact Runs.un rfl h45 (by rfl) ⟨Ext.refl _, rfl⟩
    · refine stepE rfl fun sdn sa sw sE sd sk => ?_
      have h42 : sa.eval (.tmp 42) = .bool (false) := sk.fact 3 42 rfl (sd 3 rfl)
      have h46 : sa.eval (.tmp 46) = .bool (false) := sk.fact 7 46 rfl (sd 7 rfl)
      exact Runs.pick rfl h42 ⟨Ext.refl _, by first | exact h46 | simpa using h46⟩
    · refine stepE rfl fun sdn sa sw sE sd sk => ?_
      have h47 : sa.eval (.tmp 47) = .bool (false) := sk.fact 8 47 rfl (sd 8 rfl)
      exact Runs.move rfl h47 ⟨Ext.refl _, rfl⟩
    · refine stepY (j := 9) (d := 48) (b := false) rfl rfl rfl (fun v w h => h) fun sdn sa sw sE sd sk => ?_
      have h10 : sa.eval (.tmp 10) = .int .i64 ((12 : Int)) := sk.old 10 rfl
      exact Runs.move rfl h10 ⟨Ext.refl _, rfl⟩
    · refine stepY (j := 9) (d := 48) (b := false) rfl rfl rfl (fun v w h => h) fun sdn sa sw sE sd sk => ?_
      have h49 : sa.eval (.tmp 49) = .int .i64 ((12 : Int)) := sk.fact 10 49 rfl (sd 10 rfl)
      exact Runs.bin rfl h49 rfl (by rfl) (bin_eql _ _ _ _) ⟨Ext.refl _, congrArg Value.bool (by decide)⟩
    · refine stepY (j := 9) (d := 48) (b := false) rfl rfl rfl (fun v w h => h) fun sdn sa sw sE sd sk => ?_
      have h11 : sa.eval (.tmp 11) = .bool (false) := sk.old 11 rfl
      exact Runs.move rfl h11 ⟨Ext.refl _, rfl⟩
    · refine stepY (j := 9) (d := 48) (b := false) rfl rfl rfl (fun v w h => h) fun sdn sa sw sE sd sk => ?_
      have h50 : sa.eval (.tmp 50) = .bool (false) := sk.fact 11 50 rfl (sd 11 rfl)
      have h51 : sa.eval (.tmp 51) = .bool (false) := sk.fact 12 51 rfl (sd 12 rfl)
      exact Runs.bin rfl h50 h51 (by rfl) (bin_neb _ _) ⟨Ext.refl _, congrArg Value.bool (by decide)⟩
    · refine stepE rfl fun sdn sa sw sE sd sk => ?_
      have h48 : sa.eval (.tmp 48) = .bool (false) := sk.fact 9 48 rfl (sd 9 rfl)
      have h52 : sa.eval (.tmp 52) = .bool (false) := sk.fact 13 52 rfl (sd 13 rfl)
      exact Runs.pick rfl h48 ⟨Ext.refl _, by first | exact h52 | simpa using h52⟩
    · refine stepE rfl fun sdn sa sw sE sd sk => ?_
      have h53 : sa.eval (.tmp 53) = .bool (false) := sk.fact 14 53 rfl (sd 14 rfl)
      exact Runs.move rfl h53 ⟨Ext.refl _, rfl⟩
    · refine stepY (j := 15) (d := 54) (b := false) rfl rfl rfl (fun v w h => h) fun sdn sa sw sE sd sk => ?_
      have h11 : sa.eval (.tmp 11) = .bool (false) := sk.old 11 rfl
      exact Runs.move rfl h11 ⟨Ext.refl _, rfl⟩
    · refine stepY (j := 15) (d := 54) (b := false) rfl rfl rfl (fun v w h => h) fun sdn sa sw sE sd sk => ?_
      have h55 : sa.eval (.tmp 55) = .bool (false) := sk.fact 16 55 rfl (sd 16 rfl)
      exact Runs.un rfl h55 (by rfl) ⟨Ext.refl _, rfl⟩
    · refine stepY (j := 15) (d := 54) (b := false) rfl rfl rfl (fun v w h => h) fun sdn sa sw sE sd sk => ?_
      have h56 : sa.eval (.tmp 56) = .bool (true) := sk.fact 17 56 rfl (sd 17 rfl)
      exact Runs.move rfl h56 ⟨Ext.refl _, rfl⟩
    · refine stepY (j := 18) (d := 57) (b := true) rfl rfl rfl (fun v w h => h) fun sdn sa sw sE sd sk => ?_
      have h10 : sa.eval (.tmp 10) = .int .i64 ((12 : Int)) := sk.old 10 rfl
      exact Runs.move rfl h10 ⟨Ext.refl _, rfl⟩
    · refine stepY (j := 18) (d := 57) (b := true) rfl rfl rfl (fun v w h => h) fun sdn sa sw sE sd sk => ?_
      have h58 : sa.eval (.tmp 58) = .int .i64 ((12 : Int)) := sk.fact 19 58 rfl (sd 19 rfl)
      exact Runs.bin rfl h58 rfl (by rfl) (bin_neq _ _ _ _) ⟨Ext.refl _, congrArg Value.bool (by decide)⟩
    · refine stepY (j := 18) (d := 57) (b := true) rfl rfl rfl (fun v w h => h) fun sdn sa sw sE sd sk => ?_
      have h59 : sa.eval (.tmp 59) = .bool (false) := sk.fact 20 59 rfl (sd 20 rfl)
      exact Runs.move rfl h59 ⟨Ext.refl _, rfl⟩
    · refine stepY (j := 21) (d := 60) (b := false) rfl rfl rfl (fun v w h => h) fun sdn sa sw sE sd sk => ?_
      have h9 : sa.eval (.tmp 9) = .pointer (some ⟨g9, 0, none⟩) := sk.old 9 rfl
      exact Runs.load rfl h9 (load_part (hB9.ext sE) 0 (vs := [.int .i64 ((0 : Int)), .slice (none) (0) (0), .int .i64 ((0 : Int)), .slice (none) (0) (0), .slice (none) (0) (0)]) rfl Try.underlying41 rfl (by kernel_rfl)) ⟨Ext.refl _, rfl⟩
    · refine stepY (j := 21) (d := 60) (b := false) rfl rfl rfl (fun v w h => h) fun sdn sa sw sE sd sk => ?_
      refine Runs.of_run (r := .agg #[.int .i64 ((0 : Int)), .slice (none) (0) (0), .int .i64 ((0 : Int)), .slice (none) (0) (0), .slice (none) (0) (0)]) (w' := sw) ?_ ⟨Ext.refl _, rfl⟩
      unfold execOp
      simp only [List.map_toArray, List.map_cons, List.map_nil]
      go_simp
    · refine stepY (j := 21) (d := 60) (b := false) rfl rfl rfl (fun v w h => h) fun sdn sa sw sE sd sk => ?_
      have h61 : sa.eval (.tmp 61) = .agg #[.int .i64 ((0 : Int)), .slice (none) (0) (0), .int .i64 ((0 : Int)), .slice (none) (0) (0), .slice (none) (0) (0)] := sk.fact 22 61 rfl (sd 22 rfl)
      have h62 : sa.eval (.tmp 62) = .agg #[.int .i64 ((0 : Int)), .slice (none) (0) (0), .int .i64 ((0 : Int)), .slice (none) (0) (0), .slice (none) (0) (0)] := sk.fact 23 62 rfl (sd 23 rfl)
      refine Runs.call (f := 27) (vs := [.agg #[.int .i64 ((0 : Int)), .slice (none) (0) (0), .int .i64 ((0 : Int)), .slice (none) (0) (0), .slice (none) (0) (0)], .agg #[.int .i64 ((0 : Int)), .slice (none) (0) (0), .int .i64 ((0 : Int)), .slice (none) (0) (0), .slice (none) (0) (0)]]) rfl rfl rfl (by simp only [List.map_toArray, List.map_cons, List.map_nil, h61, h62] <;> rfl) (ent27 _ _) ((eq10_true _ _ _ _ _ _ _ _ _ _ _ _ _ _ _ _ _ _ _ _ _ _ _ sw (RB.nil_ _) (RBB.nil_ _) (RBB.nil_ _) (RB.nil_ _) (RBB.nil_ _) (RBB.nil_ _)).mono ?_); rintro e w' ⟨rfl, hx⟩; exact ⟨_, rfl, hx, rfl⟩
    · refine stepY (j := 21) (d := 60) (b := false) rfl rfl rfl (fun v w h => h) fun sdn sa sw sE sd sk => ?_
      have h63 : sa.eval (.tmp 63) = .bool (true) := sk.fact 24 63 rfl (sd 24 rfl)
      exact Runs.un rfl h63 (by rfl) ⟨Ext.refl _, rfl⟩
    · refine stepY (j := 18) (d := 57) (b := true) rfl rfl rfl (fun v w h => h) fun sdn sa sw sE sd sk => ?_
      have h60 : sa.eval (.tmp 60) = .bool (false) := sk.fact 21 60 rfl (sd 21 rfl)
      have h64 : sa.eval (.tmp 64) = .bool (false) := sk.fact 25 64 rfl (sd 25 rfl)
      exact Runs.pick rfl h60 ⟨Ext.refl _, by first | exact h64 | simpa using h64⟩
    · refine stepY (j := 15) (d := 54) (b := false) rfl rfl rfl (fun v w h => h) fun sdn sa sw sE sd sk => ?_
      have h57 : sa.eval (.tmp 57) = .bool (true) := sk.fact 18 57 rfl (sd 18 rfl)
      have h65 : sa.eval (.tmp 65) = .bool (false) := sk.fact 26 65 rfl (sd 26 rfl)
      exact Runs.pick rfl h57 ⟨Ext.refl _, by first | exact h65 | simpa using h65⟩
    · refine stepE rfl fun sdn sa sw sE sd sk => ?_
      have h54 : sa.eval (.tmp 54) = .bool (false) := sk.fact 15 54 rfl (sd 15 rfl)
      have h66 : sa.eval (.tmp 66) = .bool (false) := sk.fact 27 66 rfl (sd 27 rfl)
      exact Runs.pick rfl h54 ⟨Ext.refl _, by first | exact h66 | simpa using h66⟩
    · refine stepE rfl fun sdn sa sw sE sd sk => ?_
      have h67 : sa.eval (.tmp 67) = .bool (false) := sk.fact 28 67 rfl (sd 28 rfl)
      exact Runs.move rfl h67 ⟨Ext.refl _, rfl⟩
    · refine stepY (j := 29) (d := 68) (b := false) rfl rfl rfl (fun v w h => h) fun sdn sa sw sE sd sk => ?_
      have h11 : sa.eval (.tmp 11) = .bool (false) := sk.old 11 rfl
      exact Runs.move rfl h11 ⟨Ext.refl _, rfl⟩
    · refine stepY (j := 29) (d := 68) (b := false) rfl rfl rfl (fun v w h => h) fun sdn sa sw sE sd sk => ?_
      have h69 : sa.eval (.tmp 69) = .bool (false) := sk.fact 30 69 rfl (sd 30 rfl)
      exact Runs.move rfl h69 ⟨Ext.refl _, rfl⟩
    · exact stepN (j := 31) (d := 70) (b := false) rfl rfl rfl (fun v w h => h) fun w => rfl
    · exact stepN (j := 31) (d := 70) (b := false) rfl rfl rfl (fun v w h => h) fun w => rfl
    · exact stepN (j := 31) (d := 70) (b := false) rfl rfl rfl (fun v w h => h) fun w => rfl
    · exact stepN (j := 31) (d := 70) (b := false) rfl rfl rfl (fun v w h => h) fun w => rfl
    · refine stepY (j := 29) (d := 68) (b := false) rfl rfl rfl (fun v w h => h) fun sdn sa sw sE sd sk => ?_
      have h70 : sa.eval (.tmp 70) = .bool (false) := sk.fact 31 70 rfl (sd 31 rfl)
      exact Runs.pick rfl h70 ⟨Ext.refl _, rfl⟩
    · refine stepE rfl fun sdn sa sw sE sd sk => ?_
      have h68 : sa.eval (.tmp 68) = .bool (false) := sk.fact 29 68 rfl (sd 29 rfl)
      have h75 : sa.eval (.tmp 75) = .bool (false) := sk.fact 36 75 rfl (sd 36 rfl)
      exact Runs.pick rfl h68 ⟨Ext.refl _, by first | exact h75 | simpa using h75⟩
    intro vals W8 hE8 hv8
    have e0 : vals 0 = .bool (false) := hv8 0 (by omega) 39 rfl
    have e1 : vals 1 = .bool (false) := hv8 1 (by omega) 40 rfl
    have e2 : vals 2 = .bool (false) := hv8 2 (by omega) 41 rfl
    have e3 : vals 3 = .bool (false) := hv8 3 (by omega) 42 rfl
    have e4 : vals 4 = .agg #[.int .i64 ((0 : Int)), .slice (none) (0) (0), .int .i64 ((0 : Int)), .slice (none) (0) (0), .slice (none) (0) (0)] := hv8 4 (by omega) 43 rfl
    have e5 : vals 5 = .agg #[.int .i64 ((0 : Int)), .slice (none) (0) (0), .int .i64 ((0 : Int)), .slice (none) (0) (0), .slice (none) (0) (0)] := hv8 5 (by omega) 44 rfl
    have e6 : vals 6 = .bool (true) := hv8 6 (by omega) 45 rfl
    have e7 : vals 7 = .bool (false) := hv8 7 (by omega) 46 rfl
    have e8 : vals 8 = .bool (false) := hv8 8 (by omega) 47 rfl
    have e9 : vals 9 = .bool (false) := hv8 9 (by omega) 48 rfl
    have e10 : vals 10 = .int .i64 ((12 : Int)) := hv8 10 (by omega) 49 rfl
    have e11 : vals 11 = .bool (false) := hv8 11 (by omega) 50 rfl
    have e12 : vals 12 = .bool (false) := hv8 12 (by omega) 51 rfl
    have e13 : vals 13 = .bool (false) := hv8 13 (by omega) 52 rfl
    have e14 : vals 14 = .bool (false) := hv8 14 (by omega) 53 rfl
    have e15 : vals 15 = .bool (false) := hv8 15 (by omega) 54 rfl
    have e16 : vals 16 = .bool (false) := hv8 16 (by omega) 55 rfl
    have e17 : vals 17 = .bool (true) := hv8 17 (by omega) 56 rfl
    have e18 : vals 18 = .bool (true) := hv8 18 (by omega) 57 rfl
    have e19 : vals 19 = .int .i64 ((12 : Int)) := hv8 19 (by omega) 58 rfl
    have e20 : vals 20 = .bool (false) := hv8 20 (by omega) 59 rfl
    have e21 : vals 21 = .bool (false) := hv8 21 (by omega) 60 rfl
    have e22 : vals 22 = .agg #[.int .i64 ((0 : Int)), .slice (none) (0) (0), .int .i64 ((0 : Int)), .slice (none) (0) (0), .slice (none) (0) (0)] := hv8 22 (by omega) 61 rfl
    have e23 : vals 23 = .agg #[.int .i64 ((0 : Int)), .slice (none) (0) (0), .int .i64 ((0 : Int)), .slice (none) (0) (0), .slice (none) (0) (0)] := hv8 23 (by omega) 62 rfl
    have e24 : vals 24 = .bool (true) := hv8 24 (by omega) 63 rfl
    have e25 : vals 25 = .bool (false) := hv8 25 (by omega) 64 rfl
    have e26 : vals 26 = .bool (false) := hv8 26 (by omega) 65 rfl
    have e27 : vals 27 = .bool (false) := hv8 27 (by omega) 66 rfl
    have e28 : vals 28 = .bool (false) := hv8 28 (by omega) 67 rfl
    have e29 : vals 29 = .bool (false) := hv8 29 (by omega) 68 rfl
    have e30 : vals 30 = .bool (false) := hv8 30 (by omega) 69 rfl
    have e31 : vals 31 = .bool (false) := hv8 31 (by omega) 70 rfl
    have e36 : vals 36 = .bool (false) := hv8 36 (by omega) 75 rfl
    have e37 : vals 37 = .bool (false) := hv8 37 (by omega) 76 rfl
    simp only [putAll, Act.put, List.take_succ_cons, List.take_zero, List.drop_succ_cons, List.drop_zero, List.drop_nil, List.take_nil, Nat.reduceAdd, List.setIfInBounds_toArray, List.set_cons_succ, List.set_cons_zero, e0, e1, e2, e3, e4, e5, e6, e7, e8, e9, e10, e11, e12, e13, e14, e15, e16, e17, e18, e19, e20, e21, e22, e23, e24, e25, e26, e27, e28, e29, e30, e31, e36, e37]
    clear hv8 e0 e1 e2 e3 e4 e5 e6 e7 e8 e9 e10 e11 e12 e13 e14 e15 e16 e17 e18 e19 e20 e21 e22 e23 e24 e25 e26 e27 e28 e29 e30 e31 e36 e37
    go_wp2_with fail
    go_ret
    exact ⟨rfl, hEa.trans hE8⟩
end Go.Proofs.Ythggfbpdhkpkjaa

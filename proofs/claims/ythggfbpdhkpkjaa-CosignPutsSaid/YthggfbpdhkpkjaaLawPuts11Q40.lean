/-
  CosignPuts, walked: the rest.
-/
import Derived.Test.YthggfbpdhkpkjaaLawPuts11Q39
import Derived.Test.YthggfbpdhkpkjaaLawPuts11Q38
import Derived.Test.YthggfbpdhkpkjaaLawPuts11Q29
namespace Go.Proofs.Ythggfbpdhkpkjaa
set_option maxRecDepth 100000
open Go Go.RowKit
set_option maxHeartbeats 16000000 in
theorem puts11_small (n who s : Int) (rw rk : Int) (P Q : Option Addr) (np cp nq cq : Nat) (PS QS : List (List UInt8)) (D : Option Addr) (nd cd : Nat) (Ld : List UInt8) (at' : Int) (tn : UInt8) (w : World)
    (hn : inR n) (hwho : inR who) (hs : inR s) (hat : inR at') (rP : RBB w P np cp PS) (rQ : RBB w Q nq cq QS) (rD : RB w D nd cd Ld) (hnd : nd ≤ 140737488355328) (h70 : ¬ (70 < np)) :
    Calls Try.prog 13 #[.int .i64 n, .int .i64 who, .int .i64 s, .agg #[.int .i64 rw, .int .i64 rk, .slice P np cp, .slice Q nq cq], .slice D nd cd, .int .i64 at', .int .u8 (u8i tn)] w fun e w' => e = .returned (.bool true) ∧ Ext w w' := by
  have hrm := rP.cap
  have hrm2 := rP.room
  unfold maxLen at hrm
  go_enter Try.func13, Try.ntmps13
  have hE0 := Ext.new w (.cells #[.int .i64 rw, .int .i64 rk, .slice P np cp, .slice Q nq cq] 69)
  have hB10 := Blk.new w 69 #[.int .i64 rw, .int .i64 rk, .slice P np cp, .slice Q nq cq]
  go_wp2_with fail
  generalize w.alloc (.cells #[.int .i64 rw, .int .i64 rk, .slice P np cp, .slice Q nq cq] 69) = w0 at *
  obtain ⟨g10, hg10⟩ : ∃ g10, g10 = w.heap.size := ⟨_, rfl⟩
  rw [← hg10] at hB10 ⊢
  have hge : w.heap.size ≤ g10 := by omega
  have hQb0 : 0 < nq → blk Q ≠ some g10 := fun h0 e => by have := rbb_blk_lt rQ h0 _ e; omega
  have hDb0 : 0 < nd → ∀ j, blk D = some j → j < w.heap.size := fun h0 j hj => rb_blk_lt rD h0 j hj
  have HD := Lib.hid hDb0
  have HQ := Lib.hid hQb0
  clear hg10 hQb0 hDb0
  replace rP := rP.ext hE0
  replace rQ := rQ.ext hE0
  replace rD := rD.ext hE0
  refine (seed_any n w0 hn.1 hn.2).mono ?_
  rintro e w1 ⟨S, cS, rfl, oS, hE⟩
  have rS := oS.rb
  replace rP := rP.ext hE
  replace rQ := rQ.ext hE
  replace rD := rD.ext hE
  replace hB10 := hB10.ext hE
  have hEa := hE0.trans hE
  clear hE hE0 oS
  go_wp2_with fail
  refine (rnew_any S cS (seedL n) w1 rS).mono ?_
  rintro e w2 ⟨gO, rfl, rO, hE⟩
  generalize w1.heap.size = bO at *
  generalize seedL n = Sd at *
  replace rP := rP.ext hE
  replace rQ := rQ.ext hE
  replace rD := rD.ext hE
  replace hB10 := hB10.ext hE
  replace hEa := hEa.trans hE
  clear hE rS
  go_wp2_with fail
  refine (within_any s 0 256 w2 hs.1 hs.2 (by omega) (by omega) (by omega)).mono ?_
  rintro e w3 ⟨rfl, rfl⟩
  generalize within s 0 256 = x at *
  go_wp2_with fail
  refine (hash_any n _ hn.1 hn.2).mono ?_
  rintro e w3 ⟨B, d, rfl, oR, hE⟩
  have rR := oR.rb
  generalize khash n = R at *
  have hEn := Ext.new w3 (.cells #[.int .i64 x, .slice B 32 d] 24)
  have hB16 := Blk.new w3 24 #[.int .i64 x, .slice B 32 d]
  replace hE := hE.trans hEn
  replace rP := rP.ext hE
  replace rQ := rQ.ext hE
  replace rD := rD.ext hE
  replace hB10 := hB10.ext hE
  replace rO := rO.ext hE
  replace rR := rR.ext hEn
  replace hEa := hEa.trans hE
  clear hEn hE oR
  go_upto_region 3 with (fail)
  generalize w3.alloc (.cells #[.int .i64 x, .slice B 32 d] 24) = w4 at *
  generalize w3.heap.size = g16 at *
  refine par_ext (n := 8) (by kernel_rfl) [.is (.int .i64 (who)), .is (.int .i64 (within who (-1) 5)), .is (.pointer (some ⟨gO, 0, none⟩)), .is (.agg #[.int .i64 (x), .slice (B) (32) (d)]), .rb (bodyC cosignL x R), .ag [.val (.int .i64 ((3 : Int))), .bb (64) (sigP Sd (bodyC cosignL x R) 3), .bb (4) (pathL Sd 3)], .ag [.val (.int .i64 (within who (-1) 5)), .val (.int .i64 ((3 : Int))), .bb (64) (sigP Sd (bodyC cosignL x R) 3), .bb (4) (pathL Sd 3)], .bk (w4.heap.size) 69 #[.int .i64 ((0 : Int)), .int .i64 ((0 : Int)), .slice (none) (0) (0), .slice (none) (0) (0)]] rfl ⟨?_, ?_, ?_, ?_, ?_, ?_, ?_, ?_, trivial⟩ ?_
  · refine stepE rfl fun sdn sa sw sE sd sk => ?_
    have h1 : sa.eval (.tmp 1) = .int .i64 (who) := sk.old 1 rfl
    exact Runs.move rfl h1 ⟨Ext.refl _, rfl⟩
  · refine stepE rfl fun sdn sa sw sE sd sk => ?_
    have h40 : sa.eval (.tmp 40) = .int .i64 (who) := sk.fact 0 40 rfl (sd 0 rfl)
    refine Runs.call (f := 15) (vs := [.int .i64 who, .int .i64 (-1 : Int), .int .i64 (5 : Int)]) rfl rfl rfl (by simp only [List.map_toArray, List.map_cons, List.map_nil, h40] <;> rfl) (ent15 _ _) ((within_neg who (-1) 5 sw hwho.1 hwho.2 (by omega) (by omega) (by omega)).mono ?_); rintro e w' ⟨rfl, rfl⟩; exact ⟨_, rfl, Ext.refl _, rfl⟩
  · refine stepE rfl fun sdn sa sw sE sd sk => ?_
    have h15 : sa.eval (.tmp 15) = .pointer (some ⟨gO, 0, none⟩) := sk.old 15 rfl
    exact Runs.move rfl h15 ⟨Ext.refl _, rfl⟩
  · refine stepE rfl fun sdn sa sw sE sd sk => ?_
    have h16 : sa.eval (.tmp 16) = .pointer (some ⟨g16, 0, none⟩) := sk.old 16 rfl
    exact Runs.load rfl h16 (load_part (hB16.ext sE) 0 (vs := [.int .i64 (x), .slice (B) (32) (d)]) rfl Try.underlying24 rfl (by kernel_rfl)) ⟨Ext.refl _, rfl⟩
  · refine stepE rfl fun sdn sa sw sE sd sk => ?_
    have h43 : sa.eval (.tmp 43) = .agg #[.int .i64 (x), .slice (B) (32) (d)] := sk.fact 3 43 rfl (sd 3 rfl)
    refine Runs.call (f := 46) (vs := [.agg #[.int .i64 (x), .slice (B) (32) (d)]]) rfl rfl rfl (by simp only [List.map_toArray, List.map_cons, List.map_nil, h43] <;> rfl) (ent46 _ _) ((rcos_any _ _ _ _ _ sw (rR.ext sE)).mono ?_); rintro e w' ⟨A', n', c', rfl, own, hx⟩; exact ⟨_, rfl, hx, A', n', c', rfl, own⟩
  · refine stepE rfl fun sdn sa sw sE sd sk => ?_
    have h42 : sa.eval (.tmp 42) = .pointer (some ⟨gO, 0, none⟩) := sk.fact 2 42 rfl (sd 2 rfl)
    obtain ⟨A44, n44, c44, h44, r44⟩ := sk.fact 4 44 rfl (sd 4 rfl)
    refine Runs.call (f := 54) (vs := [.pointer (some ⟨gO, 0, none⟩), .int .i64 ((3 : Int)), .slice (A44) (n44) (c44)]) rfl rfl rfl (by simp only [List.map_toArray, List.map_cons, List.map_nil, h42, h44] <;> rfl) (ent54 _ _) ((rsign_len _ _ _ _ _ 3 _ _ sw (rO.ext sE) r44 lenK (by omega)).mono ?_); rintro e w' ⟨P, d, Q, d', rfl, h1, h2, hx⟩; exact ⟨_, rfl, hx, P, d, h1, Q, d', h2, rfl⟩
  · refine stepE rfl fun sdn sa sw sE sd sk => ?_
    have h41 : sa.eval (.tmp 41) = .int .i64 (within who (-1) 5) := sk.fact 1 41 rfl (sd 1 rfl)
    obtain ⟨A45x0, c45x0, r45x0, A45x1, c45x1, r45x1, h45⟩ := sk.fact 5 45 rfl (sd 5 rfl)
    replace h45 : sa.eval (.tmp 45) = .agg #[.int .i64 ((3 : Int)), .slice (A45x0) (64) (c45x0), .slice (A45x1) (4) (c45x1)] := h45
    refine Runs.of_run (r := .agg #[.int .i64 (within who (-1) 5), .int .i64 ((3 : Int)), .slice (A45x0) (64) (c45x0), .slice (A45x1) (4) (c45x1)]) (w' := sw) ?_ ⟨Ext.refl _, ⟨_, _, r45x0, _, _, r45x1, rfl⟩⟩
    unfold execOp
    simp only [List.map_toArray, List.map_cons, List.map_nil, h41, h45]
    go_simp
  · refine stepE rfl fun sdn sa sw sE sd sk => ?_
    refine Runs.of_run (r := .pointer (some ⟨sw.heap.size, 0, none⟩)) (w' := sw.alloc (.cells #[.int .i64 ((0 : Int)), .int .i64 ((0 : Int)), .slice (none) (0) (0), .slice (none) (0) (0)] 69)) ?_ ⟨Ext.new _ _, _, rfl, Blk.new _ _ _, sE.size⟩
    unfold execOp
    go_simp
  intro vals W3 hE3 hv3
  have e0 : vals 0 = .int .i64 (who) := hv3 0 (by omega) 40 rfl
  have e1 : vals 1 = .int .i64 (within who (-1) 5) := hv3 1 (by omega) 41 rfl
  have e2 : vals 2 = .pointer (some ⟨gO, 0, none⟩) := hv3 2 (by omega) 42 rfl
  have e3 : vals 3 = .agg #[.int .i64 (x), .slice (B) (32) (d)] := hv3 3 (by omega) 43 rfl
  obtain ⟨A44, n44, c44, e4, r44⟩ := hv3 4 (by omega) 44 rfl
  obtain ⟨A45x0, c45x0, r45x0, A45x1, c45x1, r45x1, e5⟩ := hv3 5 (by omega) 45 rfl
  replace e5 : vals 5 = .agg #[.int .i64 ((3 : Int)), .slice (A45x0) (64) (c45x0), .slice (A45x1) (4) (c45x1)] := e5
  obtain ⟨A46x0, c46x0, r46x0, A46x1, c46x1, r46x1, e6⟩ := hv3 6 (by omega) 46 rfl
  replace e6 : vals 6 = .agg #[.int .i64 (within who (-1) 5), .int .i64 ((3 : Int)), .slice (A46x0) (64) (c46x0), .slice (A46x1) (4) (c46x1)] := e6
  obtain ⟨g17, e7, hb17, gb17⟩ := hv3 7 (by omega) 17 rfl
  simp only [putAll, Act.put, List.take_succ_cons, List.take_zero, List.drop_succ_cons, List.drop_zero, List.drop_nil, List.take_nil, Nat.reduceAdd, List.setIfInBounds_toArray, List.set_cons_succ, List.set_cons_zero, e0, e1, e2, e3, e4, e5, e6, e7]
  clear hv3 e0 e1 e2 e3 e4 e5 e6 e7
  have fhb170 := hb17.frozen 0
  have fhb171 := hb17.frozen 1
  have fhb172 := hb17.frozen 2
  have fhb173 := hb17.frozen 3
  have xhb170 := hb17.cell (i := 0) rfl
  have xhb171 := hb17.cell (i := 1) rfl
  have xhb172 := hb17.cell (i := 2) rfl
  have xhb173 := hb17.cell (i := 3) rfl
  have hlt10 : g10 < w4.heap.size := hB10.lt
  go_upto_region 4 with (fail)
  generalize hwn : within who (-1) 5 = wn at *
  clear hwn
  have rP17 := r46x0.set4 (by omega) hb17 wn 3 A46x0 A46x1 64 c46x0 4 c46x1
  have rQ17 := r46x1.set4 (by omega) hb17 wn 3 A46x0 A46x1 64 c46x0 4 c46x1
  have hB17 := setall4 hb17 (.int .i64 wn) (.int .i64 3) (.slice A46x0 64 c46x0) (.slice A46x1 4 c46x1)
  have hEs := ext4 hE3 gb17 (.int .i64 wn) (.int .i64 3) (.slice A46x0 64 c46x0) (.slice A46x1 4 c46x1)
  have hne : g17 ≠ g10 := by omega
  generalize (((W3.setCell ⟨g17, 0, none⟩ (.int .i64 wn)).setCell ⟨g17, 1, none⟩ (.int .i64 3)).setCell ⟨g17, 2, none⟩ (.slice A46x0 64 c46x0)).setCell ⟨g17, 3, none⟩ (.slice A46x1 4 c46x1) = w5 at *
  replace rP := rP.ext hEs
  replace rQ := rQ.ext hEs
  replace rD := rD.ext hEs
  replace hB10 := hB10.ext hEs
  replace hEa := hEa.trans hEs
  generalize sigP Sd (bodyC cosignL x R) 3 = PG at *
  generalize pathL Sd 3 = QG at *
  clear hE3 hEs r45x0 r45x1 r46x0 r46x1 hb17 gb17 hlt10 hB16 rR rO
  have hQb := HQ.out
  have h70i : ¬ ((70 : Int) < (np : Int)) := by omega
  have y0 := hB10.cell (i := 0) (v := .int .i64 rw) rfl
  have y1 := hB10.cell (i := 1) (v := .int .i64 rk) rfl
  have y2 := hB10.cell (i := 2) (v := .slice P np cp) rfl
  have y3 := hB10.cell (i := 3) (v := .slice Q nq cq) rfl
  go_upto_region 6 with (fail)
  clear y0 y1 y2 y3 h70i
  obtain ⟨w6, hw6⟩ : ∃ w6, w6 = w5 := ⟨_, rfl⟩
  subst hw6
  have rP6 := rP
  clear rP
  have rQ6 := rQ
  clear rQ
  have rD6 := rD
  clear rD
  have rP176 := rP17
  clear rP17
  have rQ176 := rQ17
  clear rQ17
  have hB176 := hB17
  clear hB17
  have hB106 := hB10
  clear hB10
  have hEa6 := hEa
  clear hEa
  have y0 := hB106.cell (i := 0) (v := .int .i64 rw) rfl
  have y1 := hB106.cell (i := 1) (v := .int .i64 rk) rfl
  have y2 := hB106.cell (i := 2) (v := .slice P np cp) rfl
  have y3 := hB106.cell (i := 3) (v := .slice Q nq cq) rfl
  have z0 := hB176.cell (i := 0) (v := .int .i64 wn) rfl
  have z1 := hB176.cell (i := 1) (v := .int .i64 3) rfl
  have z2 := hB176.cell (i := 2) (v := .slice A46x0 64 c46x0) rfl
  have z3 := hB176.cell (i := 3) (v := .slice A46x1 4 c46x1) rfl
  have hEx := Ext.new w6 (.cells #[.int .i64 rw, .int .i64 rk, .slice P np cp, .slice Q nq cq, .int .i64 wn, .int .i64 3, .slice A46x0 64 c46x0, .slice A46x1 4 c46x1] 69)
  have hBx := Blk.new w6 69 #[.int .i64 rw, .int .i64 rk, .slice P np cp, .slice Q nq cq, .int .i64 wn, .int .i64 3, .slice A46x0 64 c46x0, .slice A46x1 4 c46x1]
  have rcs := RCS.pair hBx (rP6.ext hEx) (rQ6.ext hEx) (rP176.ext hEx) (rQ176.ext hEx)
  have rDx := rD6.ext hEx
  have hEax := hEa6.trans hEx
  clear rP6 rQ6 rP176 rQ176 rD6 hEa6 hBx hQb
  go_wp2_with fail
  generalize w6.alloc (.cells #[.int .i64 rw, .int .i64 rk, .slice P np cp, .slice Q nq cq, .int .i64 wn, .int .i64 3, .slice A46x0 64 c46x0, .slice A46x1 4 c46x1] 69) = w7 at *
  generalize w6.heap.size = g60 at *
  clear y0 y1 y2 y3 z0 z1 z2 z3 hEx hB106 hB176
  generalize [(⟨rw, rk, PS, QS⟩ : CSig), ⟨wn, 3, PG, QG⟩] = gs2 at *
  have hDw : w.heap.size ≤ w7.heap.size := hEax.size
  go_loopw [62, 18] (fun i x wr => PutI w7 i x wr) (fun i _ _ => 2 - (intOf i).toNat)
  case atStart => exact ⟨0, 0, 0, none, [], by omega, rfl, rfl, OB.none_ _ _, by omega, Ext.refl _⟩
  case round =>
    obtain ⟨k, nx, dx, X, Lx, hk, rfl, rfl, oX, hnx, hEr⟩ := hrel
    by_cases hlt : k < 2
    · have hki : (k : Int) < 2 := by omega
      obtain ⟨ad, hA, hcl⟩ := (rcs.ext hEr).cells (by omega)
      cases hA
      obtain ⟨P1, np1, cp1, Q1, nq1, cq1, k0, k1, k2, k3, rP1, rQ1⟩ := hcl k hlt
      generalize cg_ gs2 k = g at *
      obtain ⟨yn, yk, PY, QY⟩ := g
      rw [add_plain] at k0 k1 k2 k3
      have r1 : wr.cell? ⟨g60, k * 4 + 1, none⟩ = some (.int .i64 yk) := by simpa [Addr.add] using k1
      have r2 : wr.cell? ⟨g60, k * 4 + 2, none⟩ = some (.slice P1 np1 cp1) := by simpa [Addr.add] using k2
      have r3 : wr.cell? ⟨g60, k * 4 + 3, none⟩ = some (.slice Q1 nq1 cq1) := by simpa [Addr.add] using k3
      have r0 : wr.cell? ⟨g60, k * 4, none⟩ = some (.int .i64 yn) := by simpa [Addr.add] using k0
      clear k0 k1 k2 k3 hcl oX hnx
      have hEn := Ext.new wr (.cells #[.int .i64 yn, .int .i64 yk, .slice P1 np1 cp1, .slice Q1 nq1 cq1] 69)
      have hB20 := Blk.new wr 69 #[.int .i64 yn, .int .i64 yk, .slice P1 np1 cp1, .slice Q1 nq1 cq1]
      go_wp2_with fail
      generalize wr.alloc (.cells #[.int .i64 yn, .int .i64 yk, .slice P1 np1 cp1, .slice Q1 nq1 cq1] 69) = v1 at *
      generalize wr.heap.size = g20 at *
      refine (wnew_any v1).mono ?_
      rintro e v2 ⟨p, rfl, hW, hE2⟩
      have hE7 := hEr.trans hEn
      replace rP1 := rP1.ext hEn
      replace rQ1 := rQ1.ext hEn
      have hb7 := hE7.size
      have rP0 := rP1
      have rQ0 := rQ1
      clear hEn r0 r1 r2 r3 hlt
      replace rP1 := rP1.ext hE2
      replace rQ1 := rQ1.ext hE2
      have hB2 := hB20.ext hE2
      have b0 := hB2.cell (i := 0) (v := .int .i64 yn) rfl
      have b1 := hB2.cell (i := 1) (v := .int .i64 yk) rfl
      have b2 := hB2.cell (i := 2) (v := .slice P1 np1 cp1) rfl
      have b3 := hB2.cell (i := 3) (v := .slice Q1 nq1 cq1) rfl
      by_cases h0 : 0 ≤ yn
      · by_cases h4 : yn < 4
        · go_wp2_with fail
          refine (rright_any yk P1 Q1 np1 cp1 nq1 cq1 PY QY v2 rP1 rQ1).mono ?_
          rintro e v3 ⟨rfl, hE3⟩
          replace rP1 := rP1.ext hE3
          replace rQ1 := rQ1.ext hE3
          replace hW := hW.ext_ hE3
          replace hB2 := hB2.ext hE3
          replace hE2 := hE2.trans hE3
          clear hE3 b0 b1 b2 b3
          cases hb : rightB yk PY QY with
          | true =>
            obtain ⟨j, rfl⟩ : ∃ j : Nat, yn = (j : Int) := ⟨yn.toNat, by omega⟩
            have hj4 : j < 4 := by omega
            have hv : kOK (j : Int) yk PY QY = true := by unfold kOK; rw [decide_eq_true ⟨h0, h4⟩, hb]; rfl
            have hl : ([UInt8.ofNat j] ++ encS yk PY QY).length = 2181 := by rw [List.length_append, encS_len hb]; rfl
            have hP := kput_any v1 v3 p 0 0 none [] P1 Q1 np1 cp1 nq1 cq1 (j : Int) yk PY QY hE2 hW (by omega) rP1 rQ1
            rw [hv, kL_yes hv, Int.toNat_natCast, hl] at hP
            have HP := Lib.hid hP
            have Hb := Lib.hid hb
            clear hv hl hP hb h0 h4
            have b0 := hB2.cell (i := 0) (v := .int .i64 (j : Int)) rfl
            have b1 := hB2.cell (i := 1) (v := .int .i64 yk) rfl
            have b2 := hB2.cell (i := 2) (v := .slice P1 np1 cp1) rfl
            have b3 := hB2.cell (i := 3) (v := .slice Q1 nq1 cq1) rfl
            go_wp2_with fail
            refine HP.out.mono ?_
            rintro e v4 ⟨rfl, A4, c4, hW4, hC4, hL4⟩
            have hW4' : Wtr v4 v1.heap.size p A4 2181 c4 ([UInt8.ofNat j] ++ encS yk PY QY) := hW4
            have hE4 := hW.chg_ext hE2 hC4
            clear hW4 hC4 hL4 HP b0 b1 b2 b3 hB2 hE2 hW rP1 rQ1
            go_wp2_with fail
            refine (wdone_any v4 v1.heap.size p 2181 c4 A4 _ hW4' (by omega)).mono ?_
            rintro e v5 ⟨X5, d5, rfl, oX5, hE5⟩
            have rX5 := oX5.rb
            obtain ⟨rP5, rQ5, hB5⟩ : RBB v5 P1 np1 cp1 PY ∧ RBB v5 Q1 nq1 cq1 QY ∧ Blk v5 g20 69 #[.int .i64 (j : Int), .int .i64 yk, .slice P1 np1 cp1, .slice Q1 nq1 cq1] := ⟨(rP0.ext hE4).ext hE5, (rQ0.ext hE4).ext hE5, (hB20.ext hE4).ext hE5⟩
            clear hW4'
            go_upto_region 17 with (fail)
            refine par_ext (n := 24) (by kernel_rfl) [.is (.bool (true)), .is (.bool (true)), .is (.slice (X5) (2181) (d5)), .is (.string (str ([UInt8.ofNat j] ++ encS yk PY QY))), .is (.pointer (some ⟨g20, 0, none⟩)), .is (.int .i64 ((j : Int))), .is (.int .u8 (u8i (UInt8.ofNat j))), .k1 ([UInt8.ofNat j]), .is (.pointer (some ⟨g20, 1, none⟩)), .is (.agg #[.int .i64 (yk), .slice (P1) (np1) (cp1), .slice (Q1) (nq1) (cq1)]), .rk (2180) (encS yk PY QY), .rk (1 + 2180) ([UInt8.ofNat j] ++ encS yk PY QY), .is (.string (str ([UInt8.ofNat j] ++ encS yk PY QY))), .is (.bool (false)), .is (.bool (false)), .is (.bool (false)), .is (.bool (true)), .is (.bool (false)), .is (.bool (false)), .is undef, .is undef, .is undef, .is (.bool (false)), .is (.bool (false))] rfl ⟨?_, ?_, ?_, ?_, ?_, ?_, ?_, ?_, ?_, ?_, ?_, ?_, ?_, ?_, ?_, ?_, ?_, ?_, ?_, ?_, ?_, ?_, ?_, ?_, trivial⟩ ?_
            · refine stepE rfl fun sdn sa sw sE sd sk => ?_
              have h22 : sa.eval (.tmp 22) = .bool (true) := sk.old 22 rfl
              exact Runs.move rfl h22 ⟨Ext.refl _, rfl⟩
            · refine stepE rfl fun sdn sa sw sE sd sk => ?_
              have h89 : sa.eval (.tmp 89) = .bool (true) := sk.fact 0 89 rfl (sd 0 rfl)
              exact Runs.move rfl h89 ⟨Ext.refl _, rfl⟩
            · refine stepY (j := 1) (d := 90) (b := true) rfl rfl rfl (fun v w h => h) fun sdn sa sw sE sd sk => ?_
              have h18 : sa.eval (.tmp 18) = .slice (X5) (2181) (d5) := sk.old 18 rfl
              exact Runs.move rfl h18 ⟨Ext.refl _, rfl⟩
            · refine stepY (j := 1) (d := 90) (b := true) rfl rfl rfl (fun v w h => h) fun sdn sa sw sE sd sk => ?_
              have h91 : sa.eval (.tmp 91) = .slice (X5) (2181) (d5) := sk.fact 2 91 rfl (sd 2 rfl)
              exact Runs.conv rfl h91 (run_str (rX5.ext sE)) ⟨Ext.refl _, rfl⟩
            · refine stepY (j := 1) (d := 90) (b := true) rfl rfl rfl (fun v w h => h) fun sdn sa sw sE sd sk => ?_
              have h20 : sa.eval (.tmp 20) = .pointer (some ⟨g20, 0, none⟩) := sk.old 20 rfl
              refine Runs.of_run (r := .pointer (some ⟨g20, 0, none⟩)) (w' := sw) ?_ ⟨Ext.refl _, rfl⟩
              unfold execOp
              simp only [h20]
              go_simp
            · refine stepY (j := 1) (d := 90) (b := true) rfl rfl rfl (fun v w h => h) fun sdn sa sw sE sd sk => ?_
              have h93 : sa.eval (.tmp 93) = .pointer (some ⟨g20, 0, none⟩) := sk.fact 4 93 rfl (sd 4 rfl)
              exact Runs.load rfl h93 (run_load1 Try.underlying3 rfl ((hB5.ext sE).cell (i := 0) rfl)) ⟨Ext.refl _, rfl⟩
            · refine stepY (j := 1) (d := 90) (b := true) rfl rfl rfl (fun v w h => h) fun sdn sa sw sE sd sk => ?_
              have h94 : sa.eval (.tmp 94) = .int .i64 ((j : Int)) := sk.fact 5 94 rfl (sd 5 rfl)
              exact Runs.conv rfl h94 (conv_i64_u8 Try.underlying3 Try.underlying5 j) ⟨Ext.refl _, rfl⟩
            · refine stepY (j := 1) (d := 90) (b := true) rfl rfl rfl (fun v w h => h) fun sdn sa sw sE sd sk => ?_
              have h95 : sa.eval (.tmp 95) = .int .u8 (u8i (UInt8.ofNat j)) := sk.fact 6 95 rfl (sd 6 rfl)
              exact Runs.lit1 (b0 := UInt8.ofNat j) rfl h95 (fun w1 e1 o1 => ⟨e1, _, rfl, o1.rb⟩)
            · refine stepY (j := 1) (d := 90) (b := true) rfl rfl rfl (fun v w h => h) fun sdn sa sw sE sd sk => ?_
              have h20 : sa.eval (.tmp 20) = .pointer (some ⟨g20, 0, none⟩) := sk.old 20 rfl
              refine Runs.of_run (r := .pointer (some ⟨g20, 1, none⟩)) (w' := sw) ?_ ⟨Ext.refl _, rfl⟩
              unfold execOp
              simp only [h20]
              go_simp
            · refine stepY (j := 1) (d := 90) (b := true) rfl rfl rfl (fun v w h => h) fun sdn sa sw sE sd sk => ?_
              have h97 : sa.eval (.tmp 97) = .pointer (some ⟨g20, 1, none⟩) := sk.fact 8 97 rfl (sd 8 rfl)
              exact Runs.load rfl h97 (load_part (hB5.ext sE) 1 (vs := [.int .i64 (yk), .slice (P1) (np1) (cp1), .slice (Q1) (nq1) (cq1)]) rfl Try.underlying39 rfl (by kernel_rfl)) ⟨Ext.refl _, rfl⟩
            · refine stepY (j := 1) (d := 90) (b := true) rfl rfl rfl (fun v w h => h) fun sdn sa sw sE sd sk => ?_
              have h98 : sa.eval (.tmp 98) = .agg #[.int .i64 (yk), .slice (P1) (np1) (cp1), .slice (Q1) (nq1) (cq1)] := sk.fact 9 98 rfl (sd 9 rfl)
              refine Runs.call (f := 59) (vs := [.agg #[.int .i64 (yk), .slice (P1) (np1) (cp1), .slice (Q1) (nq1) (cq1)]]) rfl rfl rfl (by simp only [List.map_toArray, List.map_cons, List.map_nil, h98] <;> rfl) (ent59 _ _) ((rencode_any _ _ _ _ _ _ _ _ _ sw (rP5.ext sE) (rQ5.ext sE) Hb.out).mono ?_); rintro e w' ⟨A', c', rfl, own, hx⟩; exact ⟨_, rfl, hx, A', c', rfl, own.rb⟩
            · refine stepY (j := 1) (d := 90) (b := true) rfl rfl rfl (fun v w h => h) fun sdn sa sw sE sd sk => ?_
              obtain ⟨g96, h96, r96⟩ := sk.fact 7 96 rfl (sd 7 rfl)
              obtain ⟨A99, c99, h99, r99⟩ := sk.fact 10 99 rfl (sd 10 rfl)
              exact Runs.appFull rfl h96 h99 r96 r99 (by omega) (by omega) (fun A' c' w' h1 h2 => ⟨h2, A', c', rfl, h1.rb⟩)
            · refine stepY (j := 1) (d := 90) (b := true) rfl rfl rfl (fun v w h => h) fun sdn sa sw sE sd sk => ?_
              obtain ⟨A100, c100, h100, r100⟩ := sk.fact 11 100 rfl (sd 11 rfl)
              exact Runs.conv rfl h100 (run_str r100) ⟨Ext.refl _, rfl⟩
            · refine stepY (j := 1) (d := 90) (b := true) rfl rfl rfl (fun v w h => h) fun sdn sa sw sE sd sk => ?_
              have h92 : sa.eval (.tmp 92) = .string (str ([UInt8.ofNat j] ++ encS yk PY QY)) := sk.fact 3 92 rfl (sd 3 rfl)
              have h101 : sa.eval (.tmp 101) = .string (str ([UInt8.ofNat j] ++ encS yk PY QY)) := sk.fact 12 101 rfl (sd 12 rfl)
              exact Runs.bin rfl h92 h101 (by rfl) (bin_nes _ _ _) ⟨Ext.refl _, congrArg Value.bool (by simp)⟩
            · refine stepE rfl fun sdn sa sw sE sd sk => ?_
              have h90 : sa.eval (.tmp 90) = .bool (true) := sk.fact 1 90 rfl (sd 1 rfl)
              have h102 : sa.eval (.tmp 102) = .bool (false) := sk.fact 13 102 rfl (sd 13 rfl)
              exact Runs.pick rfl h90 ⟨Ext.refl _, by first | exact h102 | simpa using h102⟩
            · refine stepE rfl fun sdn sa sw sE sd sk => ?_
              have h103 : sa.eval (.tmp 103) = .bool (false) := sk.fact 14 103 rfl (sd 14 rfl)
              exact Runs.move rfl h103 ⟨Ext.refl _, rfl⟩
            · refine stepY (j := 15) (d := 104) (b := false) rfl rfl rfl (fun v w h => h) fun sdn sa sw sE sd sk => ?_
              have h22 : sa.eval (.tmp 22) = .bool (true) := sk.old 22 rfl
              exact Runs.move rfl h22 ⟨Ext.refl _, rfl⟩
            · refine stepY (j := 15) (d := 104) (b := false) rfl rfl rfl (fun v w h => h) fun sdn sa sw sE sd sk => ?_
              have h105 : sa.eval (.tmp 105) = .bool (true) := sk.fact 16 105 rfl (sd 16 rfl)
              exact Runs.un rfl h105 (by rfl) ⟨Ext.refl _, rfl⟩
            · refine stepY (j := 15) (d := 104) (b := false) rfl rfl rfl (fun v w h => h) fun sdn sa sw sE sd sk => ?_
              have h106 : sa.eval (.tmp 106) = .bool (false) := sk.fact 17 106 rfl (sd 17 rfl)
              exact Runs.move rfl h106 ⟨Ext.refl _, rfl⟩
            · exact stepN (j := 18) (d := 107) (b := false) rfl rfl rfl (fun v w h => h) fun w => rfl
            · exact stepN (j := 18) (d := 107) (b := false) rfl rfl rfl (fun v w h => h) fun w => rfl
            · exact stepN (j := 18) (d := 107) (b := false) rfl rfl rfl (fun v w h => h) fun w => rfl
            · refine stepY (j := 15) (d := 104) (b := false) rfl rfl rfl (fun v w h => h) fun sdn sa sw sE sd sk => ?_
              have h107 : sa.eval (.tmp 107) = .bool (false) := sk.fact 18 107 rfl (sd 18 rfl)
              exact Runs.pick rfl h107 ⟨Ext.refl _, rfl⟩
            · refine stepE rfl fun sdn sa sw sE sd sk => ?_
              have h104 : sa.eval (.tmp 104) = .bool (false) := sk.fact 15 104 rfl (sd 15 rfl)
              have h111 : sa.eval (.tmp 111) = .bool (false) := sk.fact 22 111 rfl (sd 22 rfl)
              exact Runs.pick rfl h104 ⟨Ext.refl _, by first | exact h111 | simpa using h111⟩
            intro vals W17 hE17 hv17
            have e0 : vals 0 = .bool (true) := hv17 0 (by omega) 89 rfl
            have e1 : vals 1 = .bool (true) := hv17 1 (by omega) 90 rfl
            have e2 : vals 2 = .slice (X5) (2181) (d5) := hv17 2 (by omega) 91 rfl
            have e3 : vals 3 = .string (str ([UInt8.ofNat j] ++ encS yk PY QY)) := hv17 3 (by omega) 92 rfl
            have e4 : vals 4 = .pointer (some ⟨g20, 0, none⟩) := hv17 4 (by omega) 93 rfl
            have e5 : vals 5 = .int .i64 ((j : Int)) := hv17 5 (by omega) 94 rfl
            have e6 : vals 6 = .int .u8 (u8i (UInt8.ofNat j)) := hv17 6 (by omega) 95 rfl
            obtain ⟨g96, e7, r96⟩ := hv17 7 (by omega) 96 rfl
            have e8 : vals 8 = .pointer (some ⟨g20, 1, none⟩) := hv17 8 (by omega) 97 rfl
            have e9 : vals 9 = .agg #[.int .i64 (yk), .slice (P1) (np1) (cp1), .slice (Q1) (nq1) (cq1)] := hv17 9 (by omega) 98 rfl
            obtain ⟨A99, c99, e10, r99⟩ := hv17 10 (by omega) 99 rfl
            obtain ⟨A100, c100, e11, r100⟩ := hv17 11 (by omega) 100 rfl
            have e12 : vals 12 = .string (str ([UInt8.ofNat j] ++ encS yk PY QY)) := hv17 12 (by omega) 101 rfl
            have e13 : vals 13 = .bool (false) := hv17 13 (by omega) 102 rfl
            have e14 : vals 14 = .bool (false) := hv17 14 (by omega) 103 rfl
            have e15 : vals 15 = .bool (false) := hv17 15 (by omega) 104 rfl
            have e16 : vals 16 = .bool (true) := hv17 16 (by omega) 105 rfl
            have e17 : vals 17 = .bool (false) := hv17 17 (by omega) 106 rfl
            have e18 : vals 18 = .bool (false) := hv17 18 (by omega) 107 rfl
            have e22 : vals 22 = .bool (false) := hv17 22 (by omega) 111 rfl
            have e23 : vals 23 = .bool (false) := hv17 23 (by omega) 112 rfl
            simp only [putAll, Act.put, List.take_succ_cons, List.take_zero, List.drop_succ_cons, List.drop_zero, List.drop_nil, List.take_nil, Nat.reduceAdd, List.setIfInBounds_toArray, List.set_cons_succ, List.set_cons_zero, e0, e1, e2, e3, e4, e5, e6, e7, e8, e9, e10, e11, e12, e13, e14, e15, e16, e17, e18, e22, e23]
            clear hv17 e0 e1 e2 e3 e4 e5 e6 e7 e8 e9 e10 e11 e12 e13 e14 e15 e16 e17 e18 e22 e23
            go_wp2_with fail
            go_roundw
            case rel => exact ⟨k + 1, 2181, d5, X5, _, by omega, by go_num, rfl, (oX5.base (Nat.le_trans hb7 hE4.size)).ext hE17, by omega, ((hE7.trans hE4).trans hE5).trans hE17⟩
            case measure => simp [intOf] <;> omega
          | false =>
            have hv : kOK yn yk PY QY = false := by unfold kOK; rw [hb]; simp
            clear hb
            have b0 := hB2.cell (i := 0) (v := .int .i64 yn) rfl
            have b1 := hB2.cell (i := 1) (v := .int .i64 yk) rfl
            have b2 := hB2.cell (i := 2) (v := .slice P1 np1 cp1) rfl
            have b3 := hB2.cell (i := 3) (v := .slice Q1 nq1 cq1) rfl
            have hP := kput_any v1 v3 p 0 0 none [] P1 Q1 np1 cp1 nq1 cq1 yn yk PY QY hE2 hW (by omega) rP1 rQ1
            rw [hv, kL_no hv] at hP
            have HP := Lib.hid hP
            clear hP hv
            go_wp2_with fail
            refine HP.out.mono ?_
            rintro e v4 ⟨rfl, A4, c4, hW4, hC4, hL4⟩
            have hW4' : Wtr v4 v1.heap.size p A4 0 c4 [] := hW4
            have hE4 := hW.chg_ext hE2 hC4
            clear hW4 hC4 hL4 HP b0 b1 b2 b3 hB2 hE2 hW rP1 rQ1
            go_wp2_with fail
            refine (wdone_any v4 v1.heap.size p 0 c4 A4 _ hW4' (by omega)).mono ?_
            rintro e v5 ⟨X5, d5, rfl, oX5, hE5⟩
            have rX5 := oX5.rb
            obtain ⟨rP5, rQ5, hB5⟩ : RBB v5 P1 np1 cp1 PY ∧ RBB v5 Q1 nq1 cq1 QY ∧ Blk v5 g20 69 #[.int .i64 yn, .int .i64 yk, .slice P1 np1 cp1, .slice Q1 nq1 cq1] := ⟨(rP0.ext hE4).ext hE5, (rQ0.ext hE4).ext hE5, (hB20.ext hE4).ext hE5⟩
            clear hW4'
            go_upto_region 17 with (fail)
            refine par_ext (n := 24) (by kernel_rfl) [.is (.bool (false)), .is (.bool (false)), .is undef, .is undef, .is undef, .is undef, .is undef, .is undef, .is undef, .is undef, .is undef, .is undef, .is undef, .is undef, .is (.bool (false)), .is (.bool (false)), .is (.bool (false)), .is (.bool (true)), .is (.bool (true)), .is (.slice (X5) (0) (d5)), .is (.int .i64 ((0 : Nat))), .is (.bool (false)), .is (.bool (false)), .is (.bool (false))] rfl ⟨?_, ?_, ?_, ?_, ?_, ?_, ?_, ?_, ?_, ?_, ?_, ?_, ?_, ?_, ?_, ?_, ?_, ?_, ?_, ?_, ?_, ?_, ?_, ?_, trivial⟩ ?_
            · refine stepE rfl fun sdn sa sw sE sd sk => ?_
              have h22 : sa.eval (.tmp 22) = .bool (false) := sk.old 22 rfl
              exact Runs.move rfl h22 ⟨Ext.refl _, rfl⟩
            · refine stepE rfl fun sdn sa sw sE sd sk => ?_
              have h89 : sa.eval (.tmp 89) = .bool (false) := sk.fact 0 89 rfl (sd 0 rfl)
              exact Runs.move rfl h89 ⟨Ext.refl _, rfl⟩
            · exact stepN (j := 1) (d := 90) (b := false) rfl rfl rfl (fun v w h => h) fun w => rfl
            · exact stepN (j := 1) (d := 90) (b := false) rfl rfl rfl (fun v w h => h) fun w => rfl
            · exact stepN (j := 1) (d := 90) (b := false) rfl rfl rfl (fun v w h => h) fun w => rfl
            · exact stepN (j := 1) (d := 90) (b := false) rfl rfl rfl (fun v w h => h) fun w => rfl
            · exact stepN (j := 1) (d := 90) (b := false) rfl rfl rfl (fun v w h => h) fun w => rfl
            · exact stepN (j := 1) (d := 90) (b := false) rfl rfl rfl (fun v w h => h) fun w => rfl
            · exact stepN (j := 1) (d := 90) (b := false) rfl rfl rfl (fun v w h => h) fun w => rfl
            · exact stepN (j := 1) (d := 90) (b := false) rfl rfl rfl (fun v w h => h) fun w => rfl
            · exact stepN (j := 1) (d := 90) (b := false) rfl rfl rfl (fun v w h => h) fun w => rfl
            · exact stepN (j := 1) (d := 90) (b := false) rfl rfl rfl (fun v w h => h) fun w => rfl
            · exact stepN (j := 1) (d := 90) (b := false) rfl rfl rfl (fun v w h => h) fun w => rfl
            · exact stepN (j := 1) (d := 90) (b := false) rfl rfl rfl (fun v w h => h) fun w => rfl
            · refine stepE rfl fun sdn sa sw sE sd sk => ?_
              have h90 : sa.eval (.tmp 90) = .bool (false) := sk.fact 1 90 rfl (sd 1 rfl)
              exact Runs.pick rfl h90 ⟨Ext.refl _, rfl⟩
            · refine stepE rfl fun sdn sa sw sE sd sk => ?_
              have h103 : sa.eval (.tmp 103) = .bool (false) := sk.fact 14 103 rfl (sd 14 rfl)
              exact Runs.move rfl h103 ⟨Ext.refl _, rfl⟩
            · refine stepY (j := 15) (d := 104) (b := false) rfl rfl rfl (fun v w h => h) fun sdn sa sw sE sd sk => ?_
              have h22 : sa.eval (.tmp 22) = .bool (false) := sk.old 22 rfl
              exact Runs.move rfl h22 ⟨Ext.refl _, rfl⟩
            · refine stepY (j := 15) (d := 104) (b := false) rfl rfl rfl (fun v w h => h) fun sdn sa sw sE sd sk => ?_
              have h105 : sa.eval (.tmp 105) = .bool (false) := sk.fact 16 105 rfl (sd 16 rfl)
              exact Runs.un rfl h105 (by rfl) ⟨Ext.refl _, rfl⟩
            · refine stepY (j := 15) (d := 104) (b := false) rfl rfl rfl (fun v w h => h) fun sdn sa sw sE sd sk => ?_
              have h106 : sa.eval (.tmp 106) = .bool (true) := sk.fact 17 106 rfl (sd 17 rfl)
              exact Runs.move rfl h106 ⟨Ext.refl _, rfl⟩
            · refine stepY (j := 18) (d := 107) (b := true) rfl rfl rfl (fun v w h => h) fun sdn sa sw sE sd sk => ?_
              have h18 : sa.eval (.tmp 18) = .slice (X5) (0) (d5) := sk.old 18 rfl
              exact Runs.move rfl h18 ⟨Ext.refl _, rfl⟩
            · refine stepY (j := 18) (d := 107) (b := true) rfl rfl rfl (fun v w h => h) fun sdn sa sw sE sd sk => ?_
              have h108 : sa.eval (.tmp 108) = .slice (X5) (0) (d5) := sk.fact 19 108 rfl (sd 19 rfl)
              exact Runs.len Try.underlying22 rfl h108 ⟨Ext.refl _, rfl⟩
            · refine stepY (j := 18) (d := 107) (b := true) rfl rfl rfl (fun v w h => h) fun sdn sa sw sE sd sk => ?_
              have h109 : sa.eval (.tmp 109) = .int .i64 ((0 : Nat)) := sk.fact 20 109 rfl (sd 20 rfl)
              exact Runs.bin rfl h109 rfl (by rfl) (bin_neq _ _ _ _) ⟨Ext.refl _, congrArg Value.bool (by decide)⟩
            · refine stepY (j := 15) (d := 104) (b := false) rfl rfl rfl (fun v w h => h) fun sdn sa sw sE sd sk => ?_
              have h107 : sa.eval (.tmp 107) = .bool (true) := sk.fact 18 107 rfl (sd 18 rfl)
              have h110 : sa.eval (.tmp 110) = .bool (false) := sk.fact 21 110 rfl (sd 21 rfl)
              exact Runs.pick rfl h107 ⟨Ext.refl _, by first | exact h110 | simpa using h110⟩
            · refine stepE rfl fun sdn sa sw sE sd sk => ?_
              have h104 : sa.eval (.tmp 104) = .bool (false) := sk.fact 15 104 rfl (sd 15 rfl)
              have h111 : sa.eval (.tmp 111) = .bool (false) := sk.fact 22 111 rfl (sd 22 rfl)
              exact Runs.pick rfl h104 ⟨Ext.refl _, by first | exact h111 | simpa using h111⟩
            intro vals W17 hE17 hv17
            have e0 : vals 0 = .bool (false) := hv17 0 (by omega) 89 rfl
            have e1 : vals 1 = .bool (false) := hv17 1 (by omega) 90 rfl
            have e14 : vals 14 = .bool (false) := hv17 14 (by omega) 103 rfl
            have e15 : vals 15 = .bool (false) := hv17 15 (by omega) 104 rfl
            have e16 : vals 16 = .bool (false) := hv17 16 (by omega) 105 rfl
            have e17 : vals 17 = .bool (true) := hv17 17 (by omega) 106 rfl
            have e18 : vals 18 = .bool (true) := hv17 18 (by omega) 107 rfl
            have e19 : vals 19 = .slice (X5) (0) (d5) := hv17 19 (by omega) 108 rfl
            have e20 : vals 20 = .int .i64 ((0 : Nat)) := hv17 20 (by omega) 109 rfl
            have e21 : vals 21 = .bool (false) := hv17 21 (by omega) 110 rfl
            have e22 : vals 22 = .bool (false) := hv17 22 (by omega) 111 rfl
            have e23 : vals 23 = .bool (false) := hv17 23 (by omega) 112 rfl
            simp only [putAll, Act.put, List.take_succ_cons, List.take_zero, List.drop_succ_cons, List.drop_zero, List.drop_nil, List.take_nil, Nat.reduceAdd, List.setIfInBounds_toArray, List.set_cons_succ, List.set_cons_zero, e0, e1, e14, e15, e16, e17, e18, e19, e20, e21, e22, e23]
            clear hv17 e0 e1 e14 e15 e16 e17 e18 e19 e20 e21 e22 e23
            go_wp2_with fail
            go_roundw
            case rel => exact ⟨k + 1, 0, d5, X5, _, by omega, by go_num, rfl, (oX5.base (Nat.le_trans hb7 hE4.size)).ext hE17, by omega, ((hE7.trans hE4).trans hE5).trans hE17⟩
            case measure => simp [intOf] <;> omega
        · have hv : kOK yn yk PY QY = false := by unfold kOK; simp [h4]
          have hv3 : v2 = v2 := rfl
          have b0 := hB2.cell (i := 0) (v := .int .i64 yn) rfl
          have b1 := hB2.cell (i := 1) (v := .int .i64 yk) rfl
          have b2 := hB2.cell (i := 2) (v := .slice P1 np1 cp1) rfl
          have b3 := hB2.cell (i := 3) (v := .slice Q1 nq1 cq1) rfl
          have hP := kput_any v1 v2 p 0 0 none [] P1 Q1 np1 cp1 nq1 cq1 yn yk PY QY hE2 hW (by omega) rP1 rQ1
          rw [hv, kL_no hv] at hP
          have HP := Lib.hid hP
          clear hP hv
          go_wp2_with fail
          refine HP.out.mono ?_
          rintro e v4 ⟨rfl, A4, c4, hW4, hC4, hL4⟩
          have hW4' : Wtr v4 v1.heap.size p A4 0 c4 [] := hW4
          have hE4 := hW.chg_ext hE2 hC4
          clear hW4 hC4 hL4 HP b0 b1 b2 b3 hB2 hE2 hW rP1 rQ1
          go_wp2_with fail
          refine (wdone_any v4 v1.heap.size p 0 c4 A4 _ hW4' (by omega)).mono ?_
          rintro e v5 ⟨X5, d5, rfl, oX5, hE5⟩
          have rX5 := oX5.rb
          obtain ⟨rP5, rQ5, hB5⟩ : RBB v5 P1 np1 cp1 PY ∧ RBB v5 Q1 nq1 cq1 QY ∧ Blk v5 g20 69 #[.int .i64 yn, .int .i64 yk, .slice P1 np1 cp1, .slice Q1 nq1 cq1] := ⟨(rP0.ext hE4).ext hE5, (rQ0.ext hE4).ext hE5, (hB20.ext hE4).ext hE5⟩
          clear hW4'
          go_upto_region 17 with (fail)
          refine par_ext (n := 24) (by kernel_rfl) [.is (.bool (false)), .is (.bool (false)), .is undef, .is undef, .is undef, .is undef, .is undef, .is undef, .is undef, .is undef, .is undef, .is undef, .is undef, .is undef, .is (.bool (false)), .is (.bool (false)), .is (.bool (false)), .is (.bool (true)), .is (.bool (true)), .is (.slice (X5) (0) (d5)), .is (.int .i64 ((0 : Nat))), .is (.bool (false)), .is (.bool (false)), .is (.bool (false))] rfl ⟨?_, ?_, ?_, ?_, ?_, ?_, ?_, ?_, ?_, ?_, ?_, ?_, ?_, ?_, ?_, ?_, ?_, ?_, ?_, ?_, ?_, ?_, ?_, ?_, trivial⟩ ?_
          · refine stepE rfl fun sdn sa sw sE sd sk => ?_
            have h22 : sa.eval (.tmp 22) = .bool (false) := sk.old 22 rfl
            exact Runs.move rfl h22 ⟨Ext.refl _, rfl⟩
          · refine stepE rfl fun sdn sa sw sE sd sk => ?_
            have h89 : sa.eval (.tmp 89) = .bool (false) := sk.fact 0 89 rfl (sd 0 rfl)
            exact Runs.move rfl h89 ⟨Ext.refl _, rfl⟩
          · exact stepN (j := 1) (d := 90) (b := false) rfl rfl rfl (fun v w h => h) fun w => rfl
          · exact stepN (j := 1) (d := 90) (b := false) rfl rfl rfl (fun v w h => h) fun w => rfl
          · exact stepN (j := 1) (d := 90) (b := false) rfl rfl rfl (fun v w h => h) fun w => rfl
          · exact stepN (j := 1) (d := 90) (b := false) rfl rfl rfl (fun v w h => h) fun w => rfl
          · exact stepN (j := 1) (d := 90) (b := false) rfl rfl rfl (fun v w h => h) fun w => rfl
          · exact stepN (j := 1) (d := 90) (b := false) rfl rfl rfl (fun v w h => h) fun w => rfl
          · exact stepN (j := 1) (d := 90) (b := false) rfl rfl rfl (fun v w h => h) fun w => rfl
          · exact stepN (j := 1) (d := 90) (b := false) rfl rfl rfl (fun v w h => h) fun w => rfl
          · exact stepN (j := 1) (d := 90) (b := false) rfl rfl rfl (fun v w h => h) fun w => rfl
          · exact stepN (j := 1) (d := 90) (b := false) rfl rfl rfl (fun v w h => h) fun w => rfl
          · exact stepN (j := 1) (d := 90) (b := false) rfl rfl rfl (fun v w h => h) fun w => rfl
          · exact stepN (j := 1) (d := 90) (b := false) rfl rfl rfl (fun v w h => h) fun w => rfl
          · refine stepE rfl fun sdn sa sw sE sd sk => ?_
            have h90 : sa.eval (.tmp 90) = .bool (false) := sk.fact 1 90 rfl (sd 1 rfl)
            exact Runs.pick rfl h90 ⟨Ext.refl _, rfl⟩
          · refine stepE rfl fun sdn sa sw sE sd sk => ?_
            have h103 : sa.eval (.tmp 103) = .bool (false) := sk.fact 14 103 rfl (sd 14 rfl)
            exact Runs.move rfl h103 ⟨Ext.refl _, rfl⟩
          · refine stepY (j := 15) (d := 104) (b := false) rfl rfl rfl (fun v w h => h) fun sdn sa sw sE sd sk => ?_
            have h22 : sa.eval (.tmp 22) = .bool (false) := sk.old 22 rfl
            exact Runs.move rfl h22 ⟨Ext.refl _, rfl⟩
          · refine stepY (j := 15) (d := 104) (b := false) rfl rfl rfl (fun v w h => h) fun sdn sa sw sE sd sk => ?_
            have h105 : sa.eval (.tmp 105) = .bool (false) := sk.fact 16 105 rfl (sd 16 rfl)
            exact Runs.un rfl h105 (by rfl) ⟨Ext.refl _, rfl⟩
          · refine stepY (j := 15) (d := 104) (b := false) rfl rfl rfl (fun v w h => h) fun sdn sa sw sE sd sk => ?_
            have h106 : sa.eval (.tmp 106) = .bool (true) := sk.fact 17 106 rfl (sd 17 rfl)
            exact Runs.move rfl h106 ⟨Ext.refl _, rfl⟩
          · refine stepY (j := 18) (d := 107) (b := true) rfl rfl rfl (fun v w h => h) fun sdn sa sw sE sd sk => ?_
            have h18 : sa.eval (.tmp 18) = .slice (X5) (0) (d5) := sk.old 18 rfl
            exact Runs.move rfl h18 ⟨Ext.refl _, rfl⟩
          · refine stepY (j := 18) (d := 107) (b := true) rfl rfl rfl (fun v w h => h) fun sdn sa sw sE sd sk => ?_
            have h108 : sa.eval (.tmp 108) = .slice (X5) (0) (d5) := sk.fact 19 108 rfl (sd 19 rfl)
            exact Runs.len Try.underlying22 rfl h108 ⟨Ext.refl _, rfl⟩
          · refine stepY (j := 18) (d := 107) (b := true) rfl rfl rfl (fun v w h => h) fun sdn sa sw sE sd sk => ?_
            have h109 : sa.eval (.tmp 109) = .int .i64 ((0 : Nat)) := sk.fact 20 109 rfl (sd 20 rfl)
            exact Runs.bin rfl h109 rfl (by rfl) (bin_neq _ _ _ _) ⟨Ext.refl _, congrArg Value.bool (by decide)⟩
          · refine stepY (j := 15) (d := 104) (b := false) rfl rfl rfl (fun v w h => h) fun sdn sa sw sE sd sk => ?_
            have h107 : sa.eval (.tmp 107) = .bool (true) := sk.fact 18 107 rfl (sd 18 rfl)
            have h110 : sa.eval (.tmp 110) = .bool (false) := sk.fact 21 110 rfl (sd 21 rfl)
            exact Runs.pick rfl h107 ⟨Ext.refl _, by first | exact h110 | simpa using h110⟩
          · refine stepE rfl fun sdn sa sw sE sd sk => ?_
            have h104 : sa.eval (.tmp 104) = .bool (false) := sk.fact 15 104 rfl (sd 15 rfl)
            have h111 : sa.eval (.tmp 111) = .bool (false) := sk.fact 22 111 rfl (sd 22 rfl)
            exact Runs.pick rfl h104 ⟨Ext.refl _, by first | exact h111 | simpa using h111⟩
          intro vals W17 hE17 hv17
          have e0 : vals 0 = .bool (false) := hv17 0 (by omega) 89 rfl
          have e1 : vals 1 = .bool (false) := hv17 1 (by omega) 90 rfl
          have e14 : vals 14 = .bool (false) := hv17 14 (by omega) 103 rfl
          have e15 : vals 15 = .bool (false) := hv17 15 (by omega) 104 rfl
          have e16 : vals 16 = .bool (false) := hv17 16 (by omega) 105 rfl
          have e17 : vals 17 = .bool (true) := hv17 17 (by omega) 106 rfl
          have e18 : vals 18 = .bool (true) := hv17 18 (by omega) 107 rfl
          have e19 : vals 19 = .slice (X5) (0) (d5) := hv17 19 (by omega) 108 rfl
          have e20 : vals 20 = .int .i64 ((0 : Nat)) := hv17 20 (by omega) 109 rfl
          have e21 : vals 21 = .bool (false) := hv17 21 (by omega) 110 rfl
          have e22 : vals 22 = .bool (false) := hv17 22 (by omega) 111 rfl
          have e23 : vals 23 = .bool (false) := hv17 23 (by omega) 112 rfl
          simp only [putAll, Act.put, List.take_succ_cons, List.take_zero, List.drop_succ_cons, List.drop_zero, List.drop_nil, List.take_nil, Nat.reduceAdd, List.setIfInBounds_toArray, List.set_cons_succ, List.set_cons_zero, e0, e1, e14, e15, e16, e17, e18, e19, e20, e21, e22, e23]
          clear hv17 e0 e1 e14 e15 e16 e17 e18 e19 e20 e21 e22 e23
          go_wp2_with fail
          go_roundw
          case rel => exact ⟨k + 1, 0, d5, X5, _, by omega, by go_num, rfl, (oX5.base (Nat.le_trans hb7 hE4.size)).ext hE17, by omega, ((hE7.trans hE4).trans hE5).trans hE17⟩
          case measure => simp [intOf] <;> omega
      · have hv : kOK yn yk PY QY = false := by unfold kOK; simp [h0]
        have b0 := hB2.cell (i := 0) (v := .int .i64 yn) rfl
        have b1 := hB2.cell (i := 1) (v := .int .i64 yk) rfl
        have b2 := hB2.cell (i := 2) (v := .slice P1 np1 cp1) rfl
        have b3 := hB2.cell (i := 3) (v := .slice Q1 nq1 cq1) rfl
        have hP := kput_any v1 v2 p 0 0 none [] P1 Q1 np1 cp1 nq1 cq1 yn yk PY QY hE2 hW (by omega) rP1 rQ1
        rw [hv, kL_no hv] at hP
        have HP := Lib.hid hP
        clear hP hv
        go_wp2_with fail
        refine HP.out.mono ?_
        rintro e v4 ⟨rfl, A4, c4, hW4, hC4, hL4⟩
        have hW4' : Wtr v4 v1.heap.size p A4 0 c4 [] := hW4
        have hE4 := hW.chg_ext hE2 hC4
        clear hW4 hC4 hL4 HP b0 b1 b2 b3 hB2 hE2 hW rP1 rQ1
        go_wp2_with fail
        refine (wdone_any v4 v1.heap.size p 0 c4 A4 _ hW4' (by omega)).mono ?_
        rintro e v5 ⟨X5, d5, rfl, oX5, hE5⟩
        have rX5 := oX5.rb
        obtain ⟨rP5, rQ5, hB5⟩ : RBB v5 P1 np1 cp1 PY ∧ RBB v5 Q1 nq1 cq1 QY ∧ Blk v5 g20 69 #[.int .i64 yn, .int .i64 yk, .slice P1 np1 cp1, .slice Q1 nq1 cq1] := ⟨(rP0.ext hE4).ext hE5, (rQ0.ext hE4).ext hE5, (hB20.ext hE4).ext hE5⟩
        clear hW4'
        go_upto_region 17 with (fail)
        refine par_ext (n := 24) (by kernel_rfl) [.is (.bool (false)), .is (.bool (false)), .is undef, .is undef, .is undef, .is undef, .is undef, .is undef, .is undef, .is undef, .is undef, .is undef, .is undef, .is undef, .is (.bool (false)), .is (.bool (false)), .is (.bool (false)), .is (.bool (true)), .is (.bool (true)), .is (.slice (X5) (0) (d5)), .is (.int .i64 ((0 : Nat))), .is (.bool (false)), .is (.bool (false)), .is (.bool (false))] rfl ⟨?_, ?_, ?_, ?_, ?_, ?_, ?_, ?_, ?_, ?_, ?_, ?_, ?_, ?_, ?_, ?_, ?_, ?_, ?_, ?_, ?_, ?_, ?_, ?_, trivial⟩ ?_
        · refine stepE rfl fun sdn sa sw sE sd sk => ?_
          have h22 : sa.eval (.tmp 22) = .bool (false) := sk.old 22 rfl
          exact Runs.move rfl h22 ⟨Ext.refl _, rfl⟩
        · refine stepE rfl fun sdn sa sw sE sd sk => ?_
          have h89 : sa.eval (.tmp 89) = .bool (false) := sk.fact 0 89 rfl (sd 0 rfl)
          exact Runs.move rfl h89 ⟨Ext.refl _, rfl⟩
        · exact stepN (j := 1) (d := 90) (b := false) rfl rfl rfl (fun v w h => h) fun w => rfl
        · exact stepN (j := 1) (d := 90) (b := false) rfl rfl rfl (fun v w h => h) fun w => rfl
        · exact stepN (j := 1) (d := 90) (b := false) rfl rfl rfl (fun v w h => h) fun w => rfl
        · exact stepN (j := 1) (d := 90) (b := false) rfl rfl rfl (fun v w h => h) fun w => rfl
        · exact stepN (j := 1) (d := 90) (b := false) rfl rfl rfl (fun v w h => h) fun w => rfl
        · exact stepN (j := 1) (d := 90) (b := false) rfl rfl rfl (fun v w h => h) fun w => rfl
        · exact stepN (j := 1) (d := 90) (b := false) rfl rfl rfl (fun v w h => h) fun w => rfl
        · exact stepN (j := 1) (d := 90) (b := false) rfl rfl rfl (fun v w h => h) fun w => rfl
        · exact stepN (j := 1) (d := 90) (b := false) rfl rfl rfl (fun v w h => h) fun w => rfl
        · exact stepN (j := 1) (d := 90) (b := false) rfl rfl rfl (fun v w h => h) fun w => rfl
        · exact stepN (j := 1) (d := 90) (b := false) rfl rfl rfl (fun v w h => h) fun w => rfl
        · exact stepN (j := 1) (d := 90) (b := false) rfl rfl rfl (fun v w h => h) fun w => rfl
        · refine stepE rfl fun sdn sa sw sE sd sk => ?_
          have h90 : sa.eval (.tmp 90) = .bool (false) := sk.fact 1 90 rfl (sd 1 rfl)
          exact Runs.pick rfl h90 ⟨Ext.refl _, rfl⟩
        · refine stepE rfl fun sdn sa sw sE sd sk => ?_
          have h103 : sa.eval (.tmp 103) = .bool (false) := sk.fact 14 103 rfl (sd 14 rfl)
          exact Runs.move rfl h103 ⟨Ext.refl _, rfl⟩
        · refine stepY (j := 15) (d := 104) (b := false) rfl rfl rfl (fun v w h => h) fun sdn sa sw sE sd sk => ?_
          have h22 : sa.eval (.tmp 22) = .bool (false) := sk.old 22 rfl
          exact Runs.move rfl h22 ⟨Ext.refl _, rfl⟩
        · refine stepY (j := 15) (d := 104) (b := false) rfl rfl rfl (fun v w h => h) fun sdn sa sw sE sd sk => ?_
          have h105 : sa.eval (.tmp 105) = .bool (false) := sk.fact 16 105 rfl (sd 16 rfl)
          exact Runs.un rfl h105 (by rfl) ⟨Ext.refl _, rfl⟩
        · refine stepY (j := 15) (d := 104) (b := false) rfl rfl rfl (fun v w h => h) fun sdn sa sw sE sd sk => ?_
          have h106 : sa.eval (.tmp 106) = .bool (true) := sk.fact 17 106 rfl (sd 17 rfl)
          exact Runs.move rfl h106 ⟨Ext.refl _, rfl⟩
        · refine stepY (j := 18) (d := 107) (b := true) rfl rfl rfl (fun v w h => h) fun sdn sa sw sE sd sk => ?_
          have h18 : sa.eval (.tmp 18) = .slice (X5) (0) (d5) := sk.old 18 rfl
          exact Runs.move rfl h18 ⟨Ext.refl _, rfl⟩
        · refine stepY (j := 18) (d := 107) (b := true) rfl rfl rfl (fun v w h => h) fun sdn sa sw sE sd sk => ?_
          have h108 : sa.eval (.tmp 108) = .slice (X5) (0) (d5) := sk.fact 19 108 rfl (sd 19 rfl)
          exact Runs.len Try.underlying22 rfl h108 ⟨Ext.refl _, rfl⟩
        · refine stepY (j := 18) (d := 107) (b := true) rfl rfl rfl (fun v w h => h) fun sdn sa sw sE sd sk => ?_
          have h109 : sa.eval (.tmp 109) = .int .i64 ((0 : Nat)) := sk.fact 20 109 rfl (sd 20 rfl)
          exact Runs.bin rfl h109 rfl (by rfl) (bin_neq _ _ _ _) ⟨Ext.refl _, congrArg Value.bool (by decide)⟩
        · refine stepY (j := 15) (d := 104) (b := false) rfl rfl rfl (fun v w h => h) fun sdn sa sw sE sd sk => ?_
          have h107 : sa.eval (.tmp 107) = .bool (true) := sk.fact 18 107 rfl (sd 18 rfl)
          have h110 : sa.eval (.tmp 110) = .bool (false) := sk.fact 21 110 rfl (sd 21 rfl)
          exact Runs.pick rfl h107 ⟨Ext.refl _, by first | exact h110 | simpa using h110⟩
        · refine stepE rfl fun sdn sa sw sE sd sk => ?_
          have h104 : sa.eval (.tmp 104) = .bool (false) := sk.fact 15 104 rfl (sd 15 rfl)
          have h111 : sa.eval (.tmp 111) = .bool (false) := sk.fact 22 111 rfl (sd 22 rfl)
          exact Runs.pick rfl h104 ⟨Ext.refl _, by first | exact h111 | simpa using h111⟩
        intro vals W17 hE17 hv17
        have e0 : vals 0 = .bool (false) := hv17 0 (by omega) 89 rfl
        have e1 : vals 1 = .bool (false) := hv17 1 (by omega) 90 rfl
        have e14 : vals 14 = .bool (false) := hv17 14 (by omega) 103 rfl
        have e15 : vals 15 = .bool (false) := hv17 15 (by omega) 104 rfl
        have e16 : vals 16 = .bool (false) := hv17 16 (by omega) 105 rfl
        have e17 : vals 17 = .bool (true) := hv17 17 (by omega) 106 rfl
        have e18 : vals 18 = .bool (true) := hv17 18 (by omega) 107 rfl
        have e19 : vals 19 = .slice (X5) (0) (d5) := hv17 19 (by omega) 108 rfl
        have e20 : vals 20 = .int .i64 ((0 : Nat)) := hv17 20 (by omega) 109 rfl
        have e21 : vals 21 = .bool (false) := hv17 21 (by omega) 110 rfl
        have e22 : vals 22 = .bool (false) := hv17 22 (by omega) 111 rfl
        have e23 : vals 23 = .bool (false) := hv17 23 (by omega) 112 rfl
        simp only [putAll, Act.put, List.take_succ_cons, List.take_zero, List.drop_succ_cons, List.drop_zero, List.drop_nil, List.take_nil, Nat.reduceAdd, List.setIfInBounds_toArray, List.set_cons_succ, List.set_cons_zero, e0, e1, e14, e15, e16, e17, e18, e19, e20, e21, e22, e23]
        clear hv17 e0 e1 e14 e15 e16 e17 e18 e19 e20 e21 e22 e23
        go_wp2_with fail
        go_roundw
        case rel => exact ⟨k + 1, 0, d5, X5, _, by omega, by go_num, rfl, (oX5.base (Nat.le_trans hb7 hE4.size)).ext hE17, by omega, ((hE7.trans hE4).trans hE5).trans hE17⟩
        case measure => simp [intOf] <;> omega
    · obtain rfl : k = 2 := by omega
      have rDr := rDx.ext hEr
      by_cases hx : 0 < nx
      · have hxi : (0 : Int) < (nx : Int) := by omega
        obtain ⟨ad, rfl, _⟩ := oX.rb.cells hx
        obtain ⟨gX, rfl⟩ := oX.plain
        obtain ⟨pz, hp⟩ : ∃ pz : Nat, within at' 0 ((nx : Int) - 1) = pz := ⟨_, (Int.toNat_of_nonneg (within_in at' 0 ((nx : Int) - 1) (by omega)).1).symm⟩
        have hpk : pz < nx := by have := (within_in at' 0 ((nx : Int) - 1) (by omega)).2; omega
        have hwi := within_any at' 0 ((nx : Int) - 1) wr hat.1 hat.2 (by omega) (by omega) (by omega)
        rw [hp] at hwi
        have Hwi := Lib.hid hwi
        clear hp hwi
        go_wp2_with fail
        refine Hwi.out.mono ?_
        rintro e w8 ⟨rfl, rfl⟩
        have y1 := oX.cell hpk
        have y2 := oX.frozen pz
        have y3 := bits_xor8c (ub Lx pz) tn
        have hgeX := oX.ge
        obtain ⟨o6, g6⟩ := oX.set pz (ub Lx pz ^^^ tn)
        have hDg : 0 < nd → blk D ≠ some gX := by
          intro h0 e
          have h1 := HD.out h0 gX e
          omega
        have rD8 := rDr.grown g6 hDg
        have hE8 := hEr.then_grown g6 (by intro j hj; cases hj; omega)
        have hlx : (Lx.set pz (ub Lx pz ^^^ tn)).length ≤ 140737488355328 := by rw [o6.len]; omega
        have hEx2 := Ext.new (wr.setCell ⟨gX, pz, none⟩ (.int .u8 (u8i (ub Lx pz ^^^ tn)))) (.cells #[.slice (some ⟨gX, 0, none⟩) nx dx, .slice D nd cd] 22)
        have hBy := Blk.new (wr.setCell ⟨gX, pz, none⟩ (.int .u8 (u8i (ub Lx pz ^^^ tn)))) 22 #[.slice (some ⟨gX, 0, none⟩) nx dx, .slice D nd cd]
        have hsz : (wr.setCell ⟨gX, pz, none⟩ (.int .u8 (u8i (ub Lx pz ^^^ tn)))).heap.size = wr.heap.size := by simp [World.setCell]
        rw [hsz] at hBy
        have rows := RBB.pair hBy (o6.rb.ext hEx2) (rD8.ext hEx2)
        have hE9 := hE8.trans hEx2
        clear oX rDr hEr hDg rD8 hBy hEx2 o6 g6 hE8 hsz
        go_wp2_with fail
        generalize wr.heap.size = gR at *
        generalize wr.setCell ⟨gX, pz, none⟩ (.int .u8 (u8i (ub Lx pz ^^^ tn))) = w8 at *
        generalize w8.alloc (.cells #[.slice (some ⟨gX, 0, none⟩) nx dx, .slice D nd cd] 22) = w9 at *
        generalize Lx.set pz (ub Lx pz ^^^ tn) = LX2 at *
        clear y1 y2 y3 Hwi hxi hpk hgeX
        have hlb : ∀ k, k < 2 → (lb [LX2, Ld] k).length ≤ 140737488355328 := by
          intro k hk
          have hc : k = 0 ∨ k = 1 := by omega
          rcases hc with rfl | rfl
          · exact hlx
          · have h1 : Ld.length = nd := rDx.len
            show Ld.length ≤ _
            omega
        generalize [LX2, Ld] = LS at *
        clear hlx
        go_loopw [132] (fun i wr => GetI w9 i wr) (fun i _ => 2 - (intOf i).toNat)
        case atStart => exact ⟨0, by omega, rfl, Ext.refl _⟩
        case round =>
          obtain ⟨k, hk, rfl, hEr⟩ := hrel
          by_cases hlt : k < 2
          · have hki : (k : Int) < 2 := by omega
            obtain ⟨ad, hA, hc⟩ := (rows.ext hEr).cells (by omega)
            cases hA
            obtain ⟨E, z, y, hcell, rE⟩ := hc k hlt
            have hz : z ≤ 140737488355328 := by rw [← rE.len]; exact hlb k hlt
            rw [add_plain] at hcell
            generalize lb LS k = LE at *
            clear hc
            go_wp2_with fail
            refine (rread_any E z y LE wr rE hz).mono ?_
            rintro e v1 ⟨qw, rfl, hR, hE1⟩
            have hE1s := hE1.size
            have rE1 := rE.ext hE1
            have hblt : 0 < z → ∀ k', blk E = some k' → k' < v1.heap.size := fun h0 k' hk' => rb_blk_lt rE1 h0 k' hk'
            have hEn := Ext.new v1 (.cells #[.slice E z y, .int .i64 0, .bool false] 98)
            have hBr := Blk.new v1 98 #[.slice E z y, .int .i64 ((0 : Nat) : Int), .bool false]
            have hQ : RR (v1.alloc (.cells #[.slice E z y, .int .i64 0, .bool false] 98)) v1.heap.size v1.heap.size LE false :=
              ⟨E, z, y, 0, LE, hBr, rE1.ext hEn, Nat.zero_le _, hz, Nat.le_refl _, fun _ => rfl, (fun h => by cases h), hblt⟩
            replace hR := hR.later hEn
            have hE4 := hE1.trans hEn
            have hqw := hR.blk_.1
            clear hEn hBr hblt hE1 rE rE1 hcell
            go_wp2_with fail
            generalize v1.alloc (.cells #[.slice E z y, .int .i64 0, .bool false] 98) = v2 at *
            generalize v1.heap.size = qr at *
            have hqr : wr.heap.size ≤ qr := hE1s
            clear hE1s
            refine (kget_any v2 _ qw LE false hR).mono ?_
            rintro e v3 ⟨hyes, hno, _, hG⟩
            obtain ⟨_, cs, hBq, hnoq⟩ := hR.blk_
            replace hQ := hQ.away hBq (by decide) hnoq hG
            replace hE4 := hE4.then_grown hG (by intro k hk; cases hk; exact hqw)
            clear hG hBq hnoq hR
            have hqlt := hQ.lt
            have hcx : ∀ w', (convert 101 3 (.int .u32 (u32i (beNum (rtake LE false 1).1)))).run Try.prog w' = .ok (.int .i64 (u32i (beNum (rtake LE false 1).1))) w' := fun w' => conv_u32_i64' (P := Try.prog) (w := w') Try.underlying101 Try.underlying3 (beNum (rtake LE false 1).1)
            have hif := hOK_iff LE false
            rw [hN_is LE false] at hif hyes
            cases hg : hOK LE false with
            | true =>
              obtain ⟨Px, px, Qx, qx, rfl, rPx, rQx⟩ := hyes hg
              obtain ⟨hbad, href, hn4⟩ := hif.1 hg
              have Hbad := Lib.hid hbad
              have Hn4 := Lib.hid hn4
              clear hyes hno hif hg hbad hn4
              have hEn := Ext.new v3 (.cells #[.int .i64 (u32i (beNum (rtake LE false 1).1)), .int .i64 (decX (hY LE false)), .slice Px 64 px, .slice Qx 4 qx] 69)
              have hB27 := Blk.new v3 69 #[.int .i64 (u32i (beNum (rtake LE false 1).1)), .int .i64 (decX (hY LE false)), .slice Px 64 px, .slice Qx 4 qx]
              replace hQ := hQ.later hEn
              replace rPx := rPx.ext hEn
              replace rQx := rQx.ext hEn
              replace hE4 := hE4.trans hEn
              clear hEn
              go_wp2_with fail
              generalize v3.alloc (.cells #[.int .i64 (u32i (beNum (rtake LE false 1).1)), .int .i64 (decX (hY LE false)), .slice Px 64 px, .slice Qx 4 qx] 69) = v4 at *
              generalize v3.heap.size = g27 at *
              refine (r1number_any v4 _ qr LE false 1 hQ).mono ?_
              rintro e v5 ⟨rfl, hQ5, hG5⟩
              obtain ⟨A9, n9, c9, z9, hb9⟩ := hQ.blk3
              replace hB27 := hB27.grown hG5 (by intro e; injection e with e; omega)
              replace rPx := RBB.away rPx hb9 (nou8 rfl) hG5 (fun _ => RBB.apart3 rPx hb9 (no3 rfl) (by omega))
              replace rQx := RBB.away rQx hb9 (nou8 rfl) hG5 (fun _ => RBB.apart3 rQx hb9 (no3 rfl) (by omega))
              replace hE4 := hE4.then_grown hG5 (by intro k hk; cases hk; exact hqr)
              replace hQ5 : RR v5 _ qr (hS1 LE false).1 (hS1 LE false).2 := hQ5
              clear hb9 hG5
              go_wp2_with fail
              refine (r1raw_any v5 _ qr _ _ 2180 hQ5).mono ?_
              rintro e v6 ⟨⟨Y, my, dy, rfl, ownY⟩, hQ6, hG6⟩
              have hmy : my ≤ 2180 := by have h1 := ownY.len; have h2 := rtake_len (hS1 LE false).1 (hS1 LE false).2 2180; rw [h1] at h2; omega
              obtain ⟨A9, n9, c9, z9, hb9⟩ := hQ5.blk3
              replace hB27 := hB27.grown hG6 (by intro e; injection e with e; omega)
              replace rPx := RBB.away rPx hb9 (nou8 rfl) hG6 (fun _ => RBB.apart3 rPx hb9 (no3 rfl) (by omega))
              replace rQx := RBB.away rQx hb9 (nou8 rfl) hG6 (fun _ => RBB.apart3 rQx hb9 (no3 rfl) (by omega))
              replace hE4 := hE4.then_grown hG6 (by intro k hk; cases hk; exact hqr)
              replace hQ6 : RR v6 _ qr (hS2 LE false).1 (hS2 LE false).2 := hQ6
              replace ownY : OB v6 v5.heap.size Y my dy (hY LE false) := ownY
              clear hb9 hG6
              go_wp2_with fail
              refine (rdecode_any Y my dy (hY LE false) v6 ownY.rb (by omega)).mono ?_
              rintro e v7 ⟨hyes2, hno2, hE7x⟩
              replace hB27 := hB27.ext hE7x
              replace hQ6 := hQ6.later hE7x
              replace rPx := rPx.ext hE7x
              replace rQx := rQx.ext hE7x
              replace hE4 := hE4.trans hE7x
              clear hE7x ownY
              obtain ⟨P2, p2, Q2, q2, rfl, rP2, rQ2⟩ := hyes2 href
              have hEn := Ext.new v7 (.cells #[.int .i64 (decX (hY LE false)), .slice P2 64 p2, .slice Q2 4 q2] 39)
              have hB30 := Blk.new v7 39 #[.int .i64 (decX (hY LE false)), .slice P2 64 p2, .slice Q2 4 q2]
              replace hB27 := hB27.ext hEn
              replace hQ6 := hQ6.later hEn
              replace rPx := rPx.ext hEn
              replace rQx := rQx.ext hEn
              replace rP2 := rP2.ext hEn
              replace rQ2 := rQ2.ext hEn
              replace hE4 := hE4.trans hEn
              clear hyes2 hno2 hEn href
              obtain ⟨A9, n9, c9, z9, hb9⟩ := hQ6.blk3
              have z2 := hb9.cell (i := 2) (v := .bool (hS2 LE false).2) rfl
              rw [Hbad.out] at z2
              have hn4 := Hn4.out
              have hn0 : 0 ≤ u32i (beNum (rtake LE false 1).1) := by unfold u32i; omega
              generalize u32i (beNum (rtake LE false 1).1) = nn at *
              generalize decX (hY LE false) = dx' at *
              have b0 := hB27.cell (i := 0) (v := .int .i64 nn) rfl
              have b1 := hB27.cell (i := 1) (v := .int .i64 dx') rfl
              have b2 := hB27.cell (i := 2) (v := .slice Px 64 px) rfl
              have b3 := hB27.cell (i := 3) (v := .slice Qx 4 qx) rfl
              have c0 := hB30.cell (i := 0) (v := .int .i64 dx') rfl
              have c1 := hB30.cell (i := 1) (v := .slice P2 64 p2) rfl
              have c2 := hB30.cell (i := 2) (v := .slice Q2 4 q2) rfl
              clear Hbad Hn4
              go_wp2_with fail
              refine (rsame_true dx' Px Qx P2 Q2 64 px 4 qx 64 p2 4 q2 _ _ _ rPx rQx rP2 rQ2).mono ?_
              rintro e v8 ⟨rfl, hE8x⟩
              replace hE4 := hE4.trans hE8x
              clear hE8x z2 b0 b1 b2 b3 c0 c1 c2 hcx
              go_wp2_with fail
              go_roundw
              case rel => exact ⟨k + 1, by omega, by go_num, hEr.trans hE4⟩
              case measure => simp [intOf] <;> omega
            | false =>
              obtain rfl := hno hg
              have hif2 : ¬ ((hS2 LE false).2 = false ∧ refOK (hY LE false) ∧ u32i (beNum (rtake LE false 1).1) < 4) := fun h => by rw [hif.2 h] at hg; cases hg
              have Hif := Lib.hid hif2
              clear hyes hno hif hg hif2
              have hEn := Ext.new v3 (.cells #[.int .i64 0, .int .i64 0, .slice none 0 0, .slice none 0 0] 69)
              have hB27 := Blk.new v3 69 #[.int .i64 0, .int .i64 0, .slice none 0 0, .slice none 0 0]
              replace hQ := hQ.later hEn
              replace hE4 := hE4.trans hEn
              clear hEn
              go_wp2_with fail
              generalize v3.alloc (.cells #[.int .i64 0, .int .i64 0, .slice none 0 0, .slice none 0 0] 69) = v4 at *
              generalize v3.heap.size = g27 at *
              refine (r1number_any v4 _ qr LE false 1 hQ).mono ?_
              rintro e v5 ⟨rfl, hQ5, hG5⟩
              obtain ⟨A9, n9, c9, z9, hb9⟩ := hQ.blk3
              replace hB27 := hB27.grown hG5 (by intro e; injection e with e; omega)
              replace hE4 := hE4.then_grown hG5 (by intro k hk; cases hk; exact hqr)
              replace hQ5 : RR v5 _ qr (hS1 LE false).1 (hS1 LE false).2 := hQ5
              clear hb9 hG5
              go_wp2_with fail
              refine (r1raw_any v5 _ qr _ _ 2180 hQ5).mono ?_
              rintro e v6 ⟨⟨Y, my, dy, rfl, ownY⟩, hQ6, hG6⟩
              have hmy : my ≤ 2180 := by have h1 := ownY.len; have h2 := rtake_len (hS1 LE false).1 (hS1 LE false).2 2180; rw [h1] at h2; omega
              obtain ⟨A9, n9, c9, z9, hb9⟩ := hQ5.blk3
              replace hB27 := hB27.grown hG6 (by intro e; injection e with e; omega)
              replace hE4 := hE4.then_grown hG6 (by intro k hk; cases hk; exact hqr)
              replace hQ6 : RR v6 _ qr (hS2 LE false).1 (hS2 LE false).2 := hQ6
              replace ownY : OB v6 v5.heap.size Y my dy (hY LE false) := ownY
              clear hb9 hG6
              go_wp2_with fail
              refine (rdecode_any Y my dy (hY LE false) v6 ownY.rb (by omega)).mono ?_
              rintro e v7 ⟨hyes2, hno2, hE7x⟩
              replace hB27 := hB27.ext hE7x
              replace hQ6 := hQ6.later hE7x
              replace hE4 := hE4.trans hE7x
              clear hE7x ownY
              by_cases href : refOK (hY LE false)
              · obtain ⟨P2, p2, Q2, q2, rfl, rP2, rQ2⟩ := hyes2 href
                have hEn := Ext.new v7 (.cells #[.int .i64 (decX (hY LE false)), .slice P2 64 p2, .slice Q2 4 q2] 39)
                replace hB27 := hB27.ext hEn
                replace hQ6 := hQ6.later hEn
                replace hE4 := hE4.trans hEn
                clear hyes2 hno2 hEn rP2 rQ2
                obtain ⟨A9, n9, c9, z9, hb9⟩ := hQ6.blk3
                have z2 := hb9.cell (i := 2) (v := .bool (hS2 LE false).2) rfl
                have hn0 : 0 ≤ u32i (beNum (rtake LE false 1).1) := by unfold u32i; omega
                have b0 := hB27.cell (i := 0) (v := .int .i64 0) rfl
                have b1 := hB27.cell (i := 1) (v := .int .i64 0) rfl
                have b2 := hB27.cell (i := 2) (v := .slice none 0 0) rfl
                have b3 := hB27.cell (i := 3) (v := .slice none 0 0) rfl
                cases hbad : (hS2 LE false).2 with
                | true =>
                  rw [hbad] at z2
                  clear hbad Hif href
                  generalize u32i (beNum (rtake LE false 1).1) = nn at *
                  go_wp2_with fail
                  go_roundw
                  case rel => exact ⟨k + 1, by omega, by go_num, hEr.trans hE4⟩
                  case measure => simp [intOf] <;> omega
                | false =>
                  rw [hbad] at z2
                  have hn4 : ¬ (u32i (beNum (rtake LE false 1).1) < 4) := fun h => Hif.out ⟨hbad, href, h⟩
                  clear hbad Hif href
                  generalize u32i (beNum (rtake LE false 1).1) = nn at *
                  go_wp2_with fail
                  go_roundw
                  case rel => exact ⟨k + 1, by omega, by go_num, hEr.trans hE4⟩
                  case measure => simp [intOf] <;> omega
              · obtain rfl := hno2 href
                have hEn := Ext.new v7 (.cells #[.int .i64 0, .slice none 0 0, .slice none 0 0] 39)
                replace hB27 := hB27.ext hEn
                replace hE4 := hE4.trans hEn
                clear hyes2 hno2 hEn hQ6 Hif href
                have b0 := hB27.cell (i := 0) (v := .int .i64 0) rfl
                have b1 := hB27.cell (i := 1) (v := .int .i64 0) rfl
                have b2 := hB27.cell (i := 2) (v := .slice none 0 0) rfl
                have b3 := hB27.cell (i := 3) (v := .slice none 0 0) rfl
                generalize u32i (beNum (rtake LE false 1).1) = nn at *
                go_wp2_with fail
                go_roundw
                case rel => exact ⟨k + 1, by omega, by go_num, hEr.trans hE4⟩
                case measure => simp [intOf] <;> omega
          · obtain rfl : k = 2 := by omega
            go_wp2_with fail
            refine (known11_any wr).mono ?_
            rintro e wz ⟨rfl, hEz⟩
            go_wp2_with fail
            go_ret
            exact ⟨rfl, ((hEax.trans hE9).trans hEr).trans hEz⟩
      · have hxi : ¬ ((0 : Int) < (nx : Int)) := by omega
        have hlx : Lx.length ≤ 140737488355328 := by rw [oX.len]; omega
        have hEx2 := Ext.new wr (.cells #[.slice X nx dx, .slice D nd cd] 22)
        have hBy := Blk.new wr 22 #[.slice X nx dx, .slice D nd cd]
        have rows := RBB.pair hBy (oX.rb.ext hEx2) (rDr.ext hEx2)
        have hE9 := hEr.trans hEx2
        clear oX rDr hEr hBy hEx2
        go_wp2_with fail
        generalize wr.alloc (.cells #[.slice X nx dx, .slice D nd cd] 22) = w9 at *
        generalize wr.heap.size = gR at *
        generalize Lx = LX2 at *
        clear hxi
        have hlb : ∀ k, k < 2 → (lb [LX2, Ld] k).length ≤ 140737488355328 := by
          intro k hk
          have hc : k = 0 ∨ k = 1 := by omega
          rcases hc with rfl | rfl
          · exact hlx
          · have h1 : Ld.length = nd := rDx.len
            show Ld.length ≤ _
            omega
        generalize [LX2, Ld] = LS at *
        clear hlx
        go_loopw [132] (fun i wr => GetI w9 i wr) (fun i _ => 2 - (intOf i).toNat)
        case atStart => exact ⟨0, by omega, rfl, Ext.refl _⟩
        case round =>
          obtain ⟨k, hk, rfl, hEr⟩ := hrel
          by_cases hlt : k < 2
          · have hki : (k : Int) < 2 := by omega
            obtain ⟨ad, hA, hc⟩ := (rows.ext hEr).cells (by omega)
            cases hA
            obtain ⟨E, z, y, hcell, rE⟩ := hc k hlt
            have hz : z ≤ 140737488355328 := by rw [← rE.len]; exact hlb k hlt
            rw [add_plain] at hcell
            generalize lb LS k = LE at *
            clear hc
            go_wp2_with fail
            refine (rread_any E z y LE wr rE hz).mono ?_
            rintro e v1 ⟨qw, rfl, hR, hE1⟩
            have hE1s := hE1.size
            have rE1 := rE.ext hE1
            have hblt : 0 < z → ∀ k', blk E = some k' → k' < v1.heap.size := fun h0 k' hk' => rb_blk_lt rE1 h0 k' hk'
            have hEn := Ext.new v1 (.cells #[.slice E z y, .int .i64 0, .bool false] 98)
            have hBr := Blk.new v1 98 #[.slice E z y, .int .i64 ((0 : Nat) : Int), .bool false]
            have hQ : RR (v1.alloc (.cells #[.slice E z y, .int .i64 0, .bool false] 98)) v1.heap.size v1.heap.size LE false :=
              ⟨E, z, y, 0, LE, hBr, rE1.ext hEn, Nat.zero_le _, hz, Nat.le_refl _, fun _ => rfl, (fun h => by cases h), hblt⟩
            replace hR := hR.later hEn
            have hE4 := hE1.trans hEn
            have hqw := hR.blk_.1
            clear hEn hBr hblt hE1 rE rE1 hcell
            go_wp2_with fail
            generalize v1.alloc (.cells #[.slice E z y, .int .i64 0, .bool false] 98) = v2 at *
            generalize v1.heap.size = qr at *
            have hqr : wr.heap.size ≤ qr := hE1s
            clear hE1s
            refine (kget_any v2 _ qw LE false hR).mono ?_
            rintro e v3 ⟨hyes, hno, _, hG⟩
            obtain ⟨_, cs, hBq, hnoq⟩ := hR.blk_
            replace hQ := hQ.away hBq (by decide) hnoq hG
            replace hE4 := hE4.then_grown hG (by intro k hk; cases hk; exact hqw)
            clear hG hBq hnoq hR
            have hqlt := hQ.lt
            have hcx : ∀ w', (convert 101 3 (.int .u32 (u32i (beNum (rtake LE false 1).1)))).run Try.prog w' = .ok (.int .i64 (u32i (beNum (rtake LE false 1).1))) w' := fun w' => conv_u32_i64' (P := Try.prog) (w := w') Try.underlying101 Try.underlying3 (beNum (rtake LE false 1).1)
            have hif := hOK_iff LE false
            rw [hN_is LE false] at hif hyes
            cases hg : hOK LE false with
            | true =>
              obtain ⟨Px, px, Qx, qx, rfl, rPx, rQx⟩ := hyes hg
              obtain ⟨hbad, href, hn4⟩ := hif.1 hg
              have Hbad := Lib.hid hbad
              have Hn4 := Lib.hid hn4
              clear hyes hno hif hg hbad hn4
              have hEn := Ext.new v3 (.cells #[.int .i64 (u32i (beNum (rtake LE false 1).1)), .int .i64 (decX (hY LE false)), .slice Px 64 px, .slice Qx 4 qx] 69)
              have hB27 := Blk.new v3 69 #[.int .i64 (u32i (beNum (rtake LE false 1).1)), .int .i64 (decX (hY LE false)), .slice Px 64 px, .slice Qx 4 qx]
              replace hQ := hQ.later hEn
              replace rPx := rPx.ext hEn
              replace rQx := rQx.ext hEn
              replace hE4 := hE4.trans hEn
              clear hEn
              go_wp2_with fail
              generalize v3.alloc (.cells #[.int .i64 (u32i (beNum (rtake LE false 1).1)), .int .i64 (decX (hY LE false)), .slice Px 64 px, .slice Qx 4 qx] 69) = v4 at *
              generalize v3.heap.size = g27 at *
              refine (r1number_any v4 _ qr LE false 1 hQ).mono ?_
              rintro e v5 ⟨rfl, hQ5, hG5⟩
              obtain ⟨A9, n9, c9, z9, hb9⟩ := hQ.blk3
              replace hB27 := hB27.grown hG5 (by intro e; injection e with e; omega)
              replace rPx := RBB.away rPx hb9 (nou8 rfl) hG5 (fun _ => RBB.apart3 rPx hb9 (no3 rfl) (by omega))
              replace rQx := RBB.away rQx hb9 (nou8 rfl) hG5 (fun _ => RBB.apart3 rQx hb9 (no3 rfl) (by omega))
              replace hE4 := hE4.then_grown hG5 (by intro k hk; cases hk; exact hqr)
              replace hQ5 : RR v5 _ qr (hS1 LE false).1 (hS1 LE false).2 := hQ5
              clear hb9 hG5
              go_wp2_with fail
              refine (r1raw_any v5 _ qr _ _ 2180 hQ5).mono ?_
              rintro e v6 ⟨⟨Y, my, dy, rfl, ownY⟩, hQ6, hG6⟩
              have hmy : my ≤ 2180 := by have h1 := ownY.len; have h2 := rtake_len (hS1 LE false).1 (hS1 LE false).2 2180; rw [h1] at h2; omega
              obtain ⟨A9, n9, c9, z9, hb9⟩ := hQ5.blk3
              replace hB27 := hB27.grown hG6 (by intro e; injection e with e; omega)
              replace rPx := RBB.away rPx hb9 (nou8 rfl) hG6 (fun _ => RBB.apart3 rPx hb9 (no3 rfl) (by omega))
              replace rQx := RBB.away rQx hb9 (nou8 rfl) hG6 (fun _ => RBB.apart3 rQx hb9 (no3 rfl) (by omega))
              replace hE4 := hE4.then_grown hG6 (by intro k hk; cases hk; exact hqr)
              replace hQ6 : RR v6 _ qr (hS2 LE false).1 (hS2 LE false).2 := hQ6
              replace ownY : OB v6 v5.heap.size Y my dy (hY LE false) := ownY
              clear hb9 hG6
              go_wp2_with fail
              refine (rdecode_any Y my dy (hY LE false) v6 ownY.rb (by omega)).mono ?_
              rintro e v7 ⟨hyes2, hno2, hE7x⟩
              replace hB27 := hB27.ext hE7x
              replace hQ6 := hQ6.later hE7x
              replace rPx := rPx.ext hE7x
              replace rQx := rQx.ext hE7x
              replace hE4 := hE4.trans hE7x
              clear hE7x ownY
              obtain ⟨P2, p2, Q2, q2, rfl, rP2, rQ2⟩ := hyes2 href
              have hEn := Ext.new v7 (.cells #[.int .i64 (decX (hY LE false)), .slice P2 64 p2, .slice Q2 4 q2] 39)
              have hB30 := Blk.new v7 39 #[.int .i64 (decX (hY LE false)), .slice P2 64 p2, .slice Q2 4 q2]
              replace hB27 := hB27.ext hEn
              replace hQ6 := hQ6.later hEn
              replace rPx := rPx.ext hEn
              replace rQx := rQx.ext hEn
              replace rP2 := rP2.ext hEn
              replace rQ2 := rQ2.ext hEn
              replace hE4 := hE4.trans hEn
              clear hyes2 hno2 hEn href
              obtain ⟨A9, n9, c9, z9, hb9⟩ := hQ6.blk3
              have z2 := hb9.cell (i := 2) (v := .bool (hS2 LE false).2) rfl
              rw [Hbad.out] at z2
              have hn4 := Hn4.out
              have hn0 : 0 ≤ u32i (beNum (rtake LE false 1).1) := by unfold u32i; omega
              generalize u32i (beNum (rtake LE false 1).1) = nn at *
              generalize decX (hY LE false) = dx' at *
              have b0 := hB27.cell (i := 0) (v := .int .i64 nn) rfl
              have b1 := hB27.cell (i := 1) (v := .int .i64 dx') rfl
              have b2 := hB27.cell (i := 2) (v := .slice Px 64 px) rfl
              have b3 := hB27.cell (i := 3) (v := .slice Qx 4 qx) rfl
              have c0 := hB30.cell (i := 0) (v := .int .i64 dx') rfl
              have c1 := hB30.cell (i := 1) (v := .slice P2 64 p2) rfl
              have c2 := hB30.cell (i := 2) (v := .slice Q2 4 q2) rfl
              clear Hbad Hn4
              go_wp2_with fail
              refine (rsame_true dx' Px Qx P2 Q2 64 px 4 qx 64 p2 4 q2 _ _ _ rPx rQx rP2 rQ2).mono ?_
              rintro e v8 ⟨rfl, hE8x⟩
              replace hE4 := hE4.trans hE8x
              clear hE8x z2 b0 b1 b2 b3 c0 c1 c2 hcx
              go_wp2_with fail
              go_roundw
              case rel => exact ⟨k + 1, by omega, by go_num, hEr.trans hE4⟩
              case measure => simp [intOf] <;> omega
            | false =>
              obtain rfl := hno hg
              have hif2 : ¬ ((hS2 LE false).2 = false ∧ refOK (hY LE false) ∧ u32i (beNum (rtake LE false 1).1) < 4) := fun h => by rw [hif.2 h] at hg; cases hg
              have Hif := Lib.hid hif2
              clear hyes hno hif hg hif2
              have hEn := Ext.new v3 (.cells #[.int .i64 0, .int .i64 0, .slice none 0 0, .slice none 0 0] 69)
              have hB27 := Blk.new v3 69 #[.int .i64 0, .int .i64 0, .slice none 0 0, .slice none 0 0]
              replace hQ := hQ.later hEn
              replace hE4 := hE4.trans hEn
              clear hEn
              go_wp2_with fail
              generalize v3.alloc (.cells #[.int .i64 0, .int .i64 0, .slice none 0 0, .slice none 0 0] 69) = v4 at *
              generalize v3.heap.size = g27 at *
              refine (r1number_any v4 _ qr LE false 1 hQ).mono ?_
              rintro e v5 ⟨rfl, hQ5, hG5⟩
              obtain ⟨A9, n9, c9, z9, hb9⟩ := hQ.blk3
              replace hB27 := hB27.grown hG5 (by intro e; injection e with e; omega)
              replace hE4 := hE4.then_grown hG5 (by intro k hk; cases hk; exact hqr)
              replace hQ5 : RR v5 _ qr (hS1 LE false).1 (hS1 LE false).2 := hQ5
              clear hb9 hG5
              go_wp2_with fail
              refine (r1raw_any v5 _ qr _ _ 2180 hQ5).mono ?_
              rintro e v6 ⟨⟨Y, my, dy, rfl, ownY⟩, hQ6, hG6⟩
              have hmy : my ≤ 2180 := by have h1 := ownY.len; have h2 := rtake_len (hS1 LE false).1 (hS1 LE false).2 2180; rw [h1] at h2; omega
              obtain ⟨A9, n9, c9, z9, hb9⟩ := hQ5.blk3
              replace hB27 := hB27.grown hG6 (by intro e; injection e with e; omega)
              replace hE4 := hE4.then_grown hG6 (by intro k hk; cases hk; exact hqr)
              replace hQ6 : RR v6 _ qr (hS2 LE false).1 (hS2 LE false).2 := hQ6
              replace ownY : OB v6 v5.heap.size Y my dy (hY LE false) := ownY
              clear hb9 hG6
              go_wp2_with fail
              refine (rdecode_any Y my dy (hY LE false) v6 ownY.rb (by omega)).mono ?_
              rintro e v7 ⟨hyes2, hno2, hE7x⟩
              replace hB27 := hB27.ext hE7x
              replace hQ6 := hQ6.later hE7x
              replace hE4 := hE4.trans hE7x
              clear hE7x ownY
              by_cases href : refOK (hY LE false)
              · obtain ⟨P2, p2, Q2, q2, rfl, rP2, rQ2⟩ := hyes2 href
                have hEn := Ext.new v7 (.cells #[.int .i64 (decX (hY LE false)), .slice P2 64 p2, .slice Q2 4 q2] 39)
                replace hB27 := hB27.ext hEn
                replace hQ6 := hQ6.later hEn
                replace hE4 := hE4.trans hEn
                clear hyes2 hno2 hEn rP2 rQ2
                obtain ⟨A9, n9, c9, z9, hb9⟩ := hQ6.blk3
                have z2 := hb9.cell (i := 2) (v := .bool (hS2 LE false).2) rfl
                have hn0 : 0 ≤ u32i (beNum (rtake LE false 1).1) := by unfold u32i; omega
                have b0 := hB27.cell (i := 0) (v := .int .i64 0) rfl
                have b1 := hB27.cell (i := 1) (v := .int .i64 0) rfl
                have b2 := hB27.cell (i := 2) (v := .slice none 0 0) rfl
                have b3 := hB27.cell (i := 3) (v := .slice none 0 0) rfl
                cases hbad : (hS2 LE false).2 with
                | true =>
                  rw [hbad] at z2
                  clear hbad Hif href
                  generalize u32i (beNum (rtake LE false 1).1) = nn at *
                  go_wp2_with fail
                  go_roundw
                  case rel => exact ⟨k + 1, by omega, by go_num, hEr.trans hE4⟩
                  case measure => simp [intOf] <;> omega
                | false =>
                  rw [hbad] at z2
                  have hn4 : ¬ (u32i (beNum (rtake LE false 1).1) < 4) := fun h => Hif.out ⟨hbad, href, h⟩
                  clear hbad Hif href
                  generalize u32i (beNum (rtake LE false 1).1) = nn at *
                  go_wp2_with fail
                  go_roundw
                  case rel => exact ⟨k + 1, by omega, by go_num, hEr.trans hE4⟩
                  case measure => simp [intOf] <;> omega
              · obtain rfl := hno2 href
                have hEn := Ext.new v7 (.cells #[.int .i64 0, .slice none 0 0, .slice none 0 0] 39)
                replace hB27 := hB27.ext hEn
                replace hE4 := hE4.trans hEn
                clear hyes2 hno2 hEn hQ6 Hif href
                have b0 := hB27.cell (i := 0) (v := .int .i64 0) rfl
                have b1 := hB27.cell (i := 1) (v := .int .i64 0) rfl
                have b2 := hB27.cell (i := 2) (v := .slice none 0 0) rfl
                have b3 := hB27.cell (i := 3) (v := .slice none 0 0) rfl
                generalize u32i (beNum (rtake LE false 1).1) = nn at *
                go_wp2_with fail
                go_roundw
                case rel => exact ⟨k + 1, by omega, by go_num, hEr.trans hE4⟩
                case measure => simp [intOf] <;> omega
          · obtain rfl : k = 2 := by omega
            go_wp2_with fail
            refine (known11_any wr).mono ?_
            rintro e wz ⟨rfl, hEz⟩
            go_wp2_with fail
            go_ret
            exact ⟨rfl, ((hEax.trans hE9).trans hEr).trans hEz⟩

theorem puts11_any (n who s : Int) (rw rk : Int) (P Q : Option Addr) (np cp nq cq : Nat) (PS QS : List (List UInt8)) (D : Option Addr) (nd cd : Nat) (Ld : List UInt8) (at' : Int) (tn : UInt8) (w : World)
    (hn : inR n) (hwho : inR who) (hs : inR s) (hat : inR at') (rP : RBB w P np cp PS) (rQ : RBB w Q nq cq QS) (rD : RB w D nd cd Ld) (hnd : nd ≤ 140737488355328) :
    Calls Try.prog 13 #[.int .i64 n, .int .i64 who, .int .i64 s, .agg #[.int .i64 rw, .int .i64 rk, .slice P np cp, .slice Q nq cq], .slice D nd cd, .int .i64 at', .int .u8 (u8i tn)] w fun e w' => e = .returned (.bool true) ∧ Ext w w' := by
  by_cases h70 : 70 < np
  · exact puts11_big n who s rw rk P Q np cp nq cq PS QS D nd cd Ld at' tn w hn hwho hs hat rP rQ rD hnd h70
  · exact puts11_small n who s rw rk P Q np cp nq cq PS QS D nd cd Ld at' tn w hn hwho hs hat rP rQ rD hnd h70
end Go.Proofs.Ythggfbpdhkpkjaa

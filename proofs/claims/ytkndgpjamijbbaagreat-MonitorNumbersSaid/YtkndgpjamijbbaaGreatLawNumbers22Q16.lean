/-
  ref5.New and an owner's public, walked. sign.Right and sign.Verify, walked. A region that draws its order and writes constant texts ('[]byte("..")'): new rows get the run-time's mark, their cells stay. Plain theorems. law5.known, walked.
-/
import Derived.Test.YtkndgpjamijbbaaGreatLawNumbers22Q15
import Derived.Test.YtkndgpjamijbbaaGreatLawNumbers22Q13
import Derived.Test.YtkndgpjamijbbaaGreatLawNumbers22Q14
import Derived.Test.YtkndgpjamijbbaaGreatLawNumbers22Q4
import Derived.Test.YtkndgpjamijbbaaGreatLawNumbers22Q1
import Derived.Lib.SlBytesConst
namespace Go.Proofs.YtkndgpjamijbbaaGreat
set_option maxRecDepth 100000
open Go Go.RowKit
/-- an owner: its seed, its levels -/
def OwnR (w : World) (b g : Nat) (S : List UInt8) : Prop :=
  ∃ A c LA lc, RB w A 32 c S ∧ Blk w g 71 #[.slice A 32 c, .slice LA 5 lc] ∧ LevO w b LA 5 lc S
theorem OwnR.ext {w w' : World} {b g : Nat} {S : List UInt8} (h : OwnR w b g S) (e : Ext w w') : OwnR w' b g S := by
  obtain ⟨A, c, LA, lc, h1, h2, h3⟩ := h
  exact ⟨A, c, LA, lc, h1.ext e, h2.ext e, h3.ext e⟩
def NewI (w : World) (A0 : Option Addr) (c0 : Nat) (S : List UInt8) (v : Value) (wr : World) : Prop :=
  ∃ (h d c : Nat) (P A : Option Addr), h ≤ 4 ∧ v = .slice P (16 / 2 ^ h) d ∧ OBD wr w.heap.size P (16 / 2 ^ h) d (lev S h) ∧ LevO wr w.heap.size A (h + 1) c S ∧ Blk wr w.heap.size 71 #[.slice A0 32 c0, .slice A (h + 1) c] ∧ Ext w wr
set_option maxHeartbeats 4000000 in
theorem rnew_any (A : Option Addr) (c : Nat) (S : List UInt8) (w : World) (hr : RB w A 32 c S) :
    Calls Tryz.prog 9 #[.slice A 32 c] w fun e w' => ∃ g, e = .returned (.pointer (some ⟨g, 0, none⟩)) ∧ OwnR w' w.heap.size g S ∧ Ext w w' := by
  go_enter Tryz.func9, Tryz.ntmps9
  have hE1 := Ext.new w (.cells #[.slice A 32 c, .slice none 0 0] 71)
  have hB1 := Blk.new w 71 #[.slice A 32 c, .slice none 0 0]
  go_wp2_with fail
  go_loopw [4, 5] (fun v i wr => LeavesI (w.alloc (.cells #[.slice A 32 c, .slice none 0 0] 71)) S v i wr) (fun _ i _ => 16 - (intOf i).toNat)
  case atStart => exact ⟨0, 0, none, by omega, rfl, rfl, OBD.none_ _ _, Ext.refl _⟩
  case round =>
    obtain ⟨k, d, P, hk, rfl, rfl, own, hEr⟩ := hrel
    have hB2 := hB1.ext hEr
    have hE2 := hE1.trans hEr
    by_cases hlt : k < 16
    · have hki : (k : Int) < 16 := by omega
      go_wp2_with fail
      refine (r4public_any A 32 c S k wr (hr.ext hE2) (by omega)).mono ?_
      rintro e w3 ⟨A3, c3, rfl, own3, hE3⟩
      obtain ⟨ad3, rfl, _⟩ := own3.rb.cells (by omega)
      obtain ⟨g3, rfl⟩ := own3.plain
      have hEw := hEr.trans hE3
      have hEa := Ext.new w3 (.cells #[.slice (some ⟨g3, 0, none⟩) 32 c3] 26)
      have hBa := Blk.new w3 26 #[.slice (some ⟨g3, 0, none⟩) 32 c3]
      have own4 := (own.ext hE3).ext hEa
      have hne : some g3 ≠ blk P := by
        intro e
        have h1 := own3.ge
        have h2 := own.lt e.symm
        omega
      go_wp2_with (refine appbd_law (base := (w.alloc (.cells #[.slice A 32 c, .slice none 0 0] 71)).heap.size) (Y := publicL S ((k : Nat) : Int)) rfl rfl rfl rfl (by rw [add_plain]; exact hBa.cell (i := 0) rfl) own4 ((own3.base hEr.size).ext hEa) hne (hEw.trans hEa).size (by omega) ?_; intro P5 d5 w5 own5 g5)
      go_roundw
      case rel =>
        refine ⟨k + 1, d5, P5, by omega, by go_num, rfl, ?_, (hEw.trans hEa).then_grown g5 (fun b hb => (own4.lt hb).1)⟩
        rw [range_snoc]
        exact own5
      case measure => simp [intOf]; omega
    · obtain rfl : k = 16 := by omega
      have ownB := own.base hE1.size
      have y0 : wr.cell? ⟨w.heap.size, 1, none⟩ = some (.slice none 0 0) := hB2.cell (i := 1) rfl
      obtain ⟨gP, rfl⟩ := own.plain (by omega)
      have hEa := Ext.new wr (.cells #[.slice (some ⟨gP, 0, none⟩) 16 d] 33)
      have hBa := Blk.new wr 33 #[.slice (some ⟨gP, 0, none⟩) 16 d]
      have own4 : OBD (wr.alloc (.cells #[.slice (some ⟨gP, 0, none⟩) 16 d] 33)) w.heap.size (some ⟨gP, 0, none⟩) (16 / 2 ^ 0) d (lev S 0) := ownB.ext hEa
      have hB4 := hB2.ext hEa
      have hEs := (hE2.trans hEa).size
      go_wp2_with (refine appl_law (b := w.heap.size) (n := 0) (g := gP) (d := d) (S := S) rfl rfl rfl rfl (by rw [add_plain]; exact hBa.cell (i := 0) rfl) (LevO.none_ _ _ _) own4 hEs (by omega) ?_; intro A5 c5 w5 lev5 own5 g5; have hB5 := hB4.grown g5 (by intro e; cases e); have y5 := hB5.cell (i := 1) (v := .slice none 0 0) rfl; have y6 := hB5.frozen 1)
      have gs := grown_set w5 ⟨w.heap.size, 1, none⟩ (.slice A5 1 c5)
      have lev6 := lev5.far hB5 (by decide) (by decide) (by decide) gs
      have own6 := own5.far gs (fun k hk => by cases hk; exact hB5.other (by decide) (by decide))
      have hB6 := hB5.set 1 (.slice A5 1 c5)
      have hE6 := ((hE2.trans hEa).then_grown g5 (fun b hb => by cases hb)).set (p := ⟨w.heap.size, 1, none⟩) (Nat.le_refl _) (.slice A5 1 c5)
      clear lev5 own5 g5 hB5 y5 y6 gs hB4 own4 hBa y0 ownB own hB2
      go_loopw [4] (fun v wr => NewI w A c S v wr) (fun v _ => sliceLen v)
      case atStart => exact ⟨0, d, c5, _, A5, by omega, rfl, own6, lev6, hB6, hE6⟩
      case round =>
        clear lev6 own6 hB6 hE6 hEs hB1 hEr hE1 hE2 hEa
        obtain ⟨h, d, c', P, A', hh, rfl, own, lv, hB, hEo⟩ := hrel
        obtain ⟨wo, rfl⟩ : ∃ wo, wo = wr := ⟨_, rfl⟩
        by_cases hlt : h < 4
        · obtain ⟨p1, p2, p3, p4⟩ := pow_step hlt
          have hap := fun (wx : World) (g5 d5 : Nat) (hown : OBD wx w.heap.size (some ⟨g5, 0, none⟩) (16 / 2 ^ h / 2) d5 (upL (lev S h))) => (show OBD wx w.heap.size (some ⟨g5, 0, none⟩) (16 / 2 ^ (h + 1)) d5 (lev S (h + 1)) by rw [p3] at hown; exact hown)
          have Hap := Lib.hid hap
          have HN := Lib.hid p3
          have h5 : 1 < 16 / 2 ^ h := by omega
          have hup : upL (lev S h) = (List.range (16 / 2 ^ h / 2)).map fun i => nodeV (lb (lev S h) (2 * i)) (lb (lev S h) (2 * i + 1)) := by unfold upL; rw [own.len]
          have Hup := Lib.hid hup
          clear hap p3 p4 hup
          generalize lev S h = LV at *
          generalize 16 / 2 ^ h = N at *
          have hN : (1 : Int) < (N : Int) := by omega
          obtain ⟨g, rfl⟩ := own.plain (by omega)
          go_wp2_with fail
          go_loopw [6, 7] (fun v i wi => AboveI wo N LV v i wi) (fun _ i _ => N - (intOf i).toNat)
          case atStart => exact ⟨0, 0, none, by omega, rfl, rfl, OBD.none_ _ _, Ext.refl _⟩
          case round =>
            obtain ⟨k, dk, Pk, hk, rfl, rfl, ownk, hEk⟩ := hrel
            by_cases hlt2 : 2 * k + 1 < N
            · have hki : ((2 * k : Nat) : Int) < (N : Int) := by omega
              obtain ⟨g1, d1, hc1, o1⟩ := (own.ext hEk).cell (j := 2 * k) (by omega)
              obtain ⟨g2, d2, hc2, o2⟩ := (own.ext hEk).cell (j := 2 * k + 1) (by omega)
              have r1 := o1.rb
              have r2 := o2.rb
              have hl1 := r1.len
              have hl2 := r2.len
              have Hl1 := Lib.hid hl1
              have Hl2 := Lib.hid hl2
              clear hl1 hl2 o1 o2
              obtain ⟨X, hX⟩ : ∃ X, X = lb LV (2 * k) := ⟨_, rfl⟩
              obtain ⟨Y, hY⟩ : ∃ Y, Y = lb LV (2 * k + 1) := ⟨_, rfl⟩
              rw [← hX] at r1 Hl1
              rw [← hY] at r2 Hl2
              have HX := Lib.hid hX
              have HY := Lib.hid hY
              clear hX hY
              go_upto_region 13 with (fail)
              refine par_ext (n := 13) (by kernel_rfl) [.is (.slice (Pk) (k) (dk)), .is (.slice (some ⟨g, 0, none⟩) (N) (d)), .is (.int .i64 (((2 * k : Nat) : Int))), .is (.pointer (some ((⟨g, 0, none⟩ : Addr).add ((2 * k))))), .is (.slice (some ⟨g1, 0, none⟩) (32) (d1)), .is (.slice (some ⟨g, 0, none⟩) (N) (d)), .is (.int .i64 (((2 * k : Nat) : Int))), .is (.int .i64 (((2 * k : Nat) : Int) + (1 : Int))), .is (.pointer (some ((⟨g, 0, none⟩ : Addr).add (((2 * k) + 1))))), .is (.slice (some ⟨g2, 0, none⟩) (32) (d2)), .rbb ([X, Y]), .ob32 (wr.heap.size) (nodeV X Y), .one32 (wr.heap.size) (nodeV X Y)] rfl ⟨?_, ?_, ?_, ?_, ?_, ?_, ?_, ?_, ?_, ?_, ?_, ?_, ?_, trivial⟩ ?_
              · refine stepE rfl fun sdn sa sw sE sd sk => ?_
                have h6 : sa.eval (.tmp 6) = .slice (Pk) (k) (dk) := sk.old 6 rfl
                exact Runs.move rfl h6 ⟨Ext.refl _, rfl⟩
              · refine stepE rfl fun sdn sa sw sE sd sk => ?_
                have h4 : sa.eval (.tmp 4) = .slice (some ⟨g, 0, none⟩) (N) (d) := sk.old 4 rfl
                exact Runs.move rfl h4 ⟨Ext.refl _, rfl⟩
              · refine stepE rfl fun sdn sa sw sE sd sk => ?_
                have h7 : sa.eval (.tmp 7) = .int .i64 (((2 * k : Nat) : Int)) := sk.old 7 rfl
                exact Runs.move rfl h7 ⟨Ext.refl _, rfl⟩
              · refine stepE rfl fun sdn sa sw sE sd sk => ?_
                have h41 : sa.eval (.tmp 41) = .slice (some ⟨g, 0, none⟩) (N) (d) := sk.fact 1 41 rfl (sd 1 rfl)
                have h42 : sa.eval (.tmp 42) = .int .i64 (((2 * k : Nat) : Int)) := sk.fact 2 42 rfl (sd 2 rfl)
                exact Runs.idx rfl h41 h42 (run_idx_sl1 Tryz.underlying33 infZZ_eq infZZ_size ((2 * k)) (by omega) (by omega)) ⟨Ext.refl _, rfl⟩
              · refine stepE rfl fun sdn sa sw sE sd sk => ?_
                have h43 : sa.eval (.tmp 43) = .pointer (some ((⟨g, 0, none⟩ : Addr).add ((2 * k)))) := sk.fact 3 43 rfl (sd 3 rfl)
                exact Runs.load rfl h43 (run_load1 Tryz.underlying26 rfl (sE.cell hc1)) ⟨Ext.refl _, rfl⟩
              · refine stepE rfl fun sdn sa sw sE sd sk => ?_
                have h4 : sa.eval (.tmp 4) = .slice (some ⟨g, 0, none⟩) (N) (d) := sk.old 4 rfl
                exact Runs.move rfl h4 ⟨Ext.refl _, rfl⟩
              · refine stepE rfl fun sdn sa sw sE sd sk => ?_
                have h7 : sa.eval (.tmp 7) = .int .i64 (((2 * k : Nat) : Int)) := sk.old 7 rfl
                exact Runs.move rfl h7 ⟨Ext.refl _, rfl⟩
              · refine stepE rfl fun sdn sa sw sE sd sk => ?_
                have h46 : sa.eval (.tmp 46) = .int .i64 (((2 * k : Nat) : Int)) := sk.fact 6 46 rfl (sd 6 rfl)
                exact Runs.bin rfl h46 rfl (eqGuard_bin rfl) (bin_add64 _ _ _ (by omega) (by omega)) ⟨Ext.refl _, rfl⟩
              · refine stepE rfl fun sdn sa sw sE sd sk => ?_
                have h45 : sa.eval (.tmp 45) = .slice (some ⟨g, 0, none⟩) (N) (d) := sk.fact 5 45 rfl (sd 5 rfl)
                have h47 : sa.eval (.tmp 47) = .int .i64 (((2 * k : Nat) : Int) + (1 : Int)) := sk.fact 7 47 rfl (sd 7 rfl)
                exact Runs.idx rfl h45 h47 (run_idx_sl1 Tryz.underlying33 infZZ_eq infZZ_size (((2 * k) + 1)) (by omega) (by omega)) ⟨Ext.refl _, rfl⟩
              · refine stepE rfl fun sdn sa sw sE sd sk => ?_
                have h48 : sa.eval (.tmp 48) = .pointer (some ((⟨g, 0, none⟩ : Addr).add (((2 * k) + 1)))) := sk.fact 8 48 rfl (sd 8 rfl)
                exact Runs.load rfl h48 (run_load1 Tryz.underlying26 rfl (sE.cell hc2)) ⟨Ext.refl _, rfl⟩
              · refine stepE rfl fun sdn sa sw sE sd sk => ?_
                have h44 : sa.eval (.tmp 44) = .slice (some ⟨g1, 0, none⟩) (32) (d1) := sk.fact 4 44 rfl (sd 4 rfl)
                have h49 : sa.eval (.tmp 49) = .slice (some ⟨g2, 0, none⟩) (32) (d2) := sk.fact 9 49 rfl (sd 9 rfl)
                exact Runs.ss2 rfl h44 h49 (r1.ext sE) (r2.ext sE) (fun w1 e1 b1 => ⟨e1, _, _, _, rfl, b1⟩)
              · refine stepE rfl fun sdn sa sw sE sd sk => ?_
                obtain ⟨A50, n50, c50, h50, r50⟩ := sk.fact 10 50 rfl (sd 10 rfl)
                refine Runs.call (f := 29) (vs := [.int .u8 (u8i (14 : UInt8)), .slice (A50) (n50) (c50)]) rfl rfl rfl (by simp only [List.map_toArray, List.map_cons, List.map_nil, h50] <;> rfl) (ent29 _ _) ((rtagged_any (14 : UInt8) _ _ _ _ sw r50 (by simp only [List.flatten_cons, List.flatten_nil, List.length_append, List.length_nil, Hl1.out, Hl2.out]; omega)).mono ?_); rintro e w' ⟨A', c', rfl, own, hx⟩; obtain ⟨ad', rfl, _⟩ := own.rb.cells (by omega); obtain ⟨g', rfl⟩ := own.plain; exact ⟨_, rfl, hx, g', c', rfl, (show OB w' sw.heap.size _ 32 c' (nodeV X Y) by simpa [nodeV] using own).base sE.size⟩
              · refine stepE rfl fun sdn sa sw sE sd sk => ?_
                obtain ⟨g51, d51, h51, o51⟩ := sk.fact 11 51 rfl (sd 11 rfl)
                exact Runs.one1 rfl h51 (fun w1 e1 b1 => ⟨e1, _, _, _, rfl, b1, o51.ext e1⟩)
              intro vals W1 hE hv
              have e0 : vals 0 = .slice (Pk) (k) (dk) := hv 0 (by omega) 40 rfl
              have e1 : vals 1 = .slice (some ⟨g, 0, none⟩) (N) (d) := hv 1 (by omega) 41 rfl
              have e2 : vals 2 = .int .i64 (((2 * k : Nat) : Int)) := hv 2 (by omega) 42 rfl
              have e3 : vals 3 = .pointer (some ((⟨g, 0, none⟩ : Addr).add ((2 * k)))) := hv 3 (by omega) 43 rfl
              have e4 : vals 4 = .slice (some ⟨g1, 0, none⟩) (32) (d1) := hv 4 (by omega) 44 rfl
              have e5 : vals 5 = .slice (some ⟨g, 0, none⟩) (N) (d) := hv 5 (by omega) 45 rfl
              have e6 : vals 6 = .int .i64 (((2 * k : Nat) : Int)) := hv 6 (by omega) 46 rfl
              have e7 : vals 7 = .int .i64 (((2 * k : Nat) : Int) + (1 : Int)) := hv 7 (by omega) 47 rfl
              have e8 : vals 8 = .pointer (some ((⟨g, 0, none⟩ : Addr).add (((2 * k) + 1)))) := hv 8 (by omega) 48 rfl
              have e9 : vals 9 = .slice (some ⟨g2, 0, none⟩) (32) (d2) := hv 9 (by omega) 49 rfl
              obtain ⟨A50, n50, c50, e10, r50⟩ := hv 10 (by omega) 50 rfl
              obtain ⟨g51, d51, e11, o51⟩ := hv 11 (by omega) 51 rfl
              obtain ⟨x52, g52, d52, e12, hc52, o52⟩ := hv 12 (by omega) 52 rfl
              simp only [putAll, Act.put, List.take_succ_cons, List.take_zero, List.drop_succ_cons, List.drop_zero, List.drop_nil, List.take_nil, Nat.reduceAdd, List.setIfInBounds_toArray, List.set_cons_succ, List.set_cons_zero, e0, e1, e2, e3, e4, e5, e6, e7, e8, e9, e10, e11, e12]
              clear hv e0 e1 e2 e3 e4 e5 e6 e7 e8 e9 e10 e11 e12
              have ownW := ownk.ext hE
              have hEw := hEk.trans hE
              have hne : some g52 ≠ blk Pk := by
                intro e
                have h1 := o52.ge
                have h2 := ownk.lt e.symm
                omega
              have oV := o52.base hEk.size
              go_wp2_with (refine appbd_law (base := wo.heap.size) (Y := nodeV X Y) rfl rfl rfl rfl hc52 ownW oV hne hEw.size (by omega) ?_; intro P5 d5 w5 own5 g5)
              go_roundw
              case rel =>
                refine ⟨k + 1, d5, P5, by omega, by go_num, rfl, ?_, hEw.then_grown g5 (fun b hb => (ownW.lt hb).1)⟩
                rw [range_snoc, ← HX.out, ← HY.out]
                exact own5
              case measure => simp [intOf]; omega
            · obtain rfl : k = N / 2 := by omega
              have hki : ¬ (((2 * (N / 2) : Nat) : Int) < (N : Int)) := by omega
              rw [← Hup.out] at ownk
              obtain ⟨gk, rfl⟩ := ownk.plain (by omega)
              have ownB := Hap.out _ _ _ (ownk.base hEo.size)
              have levk := lv.ext hEk
              have hBk := hB.ext hEk
              have hEok := hEo.trans hEk
              have y0 : wr.cell? ⟨w.heap.size, 1, none⟩ = some (.slice A' (h + 1) c') := hBk.cell (i := 1) rfl
              have hEa := Ext.new wr (.cells #[.slice (some ⟨gk, 0, none⟩) (N / 2) dk] 33)
              have hBa := Blk.new wr 33 #[.slice (some ⟨gk, 0, none⟩) (N / 2) dk]
              have hca := hBa.cell (i := 0) rfl
              have hca2 : (wr.alloc (.cells #[.slice (some ⟨gk, 0, none⟩) (N / 2) dk] 33)).cell? ((⟨wr.heap.size, 0, none⟩ : Addr).add 0) = some (.slice (some ⟨gk, 0, none⟩) (16 / 2 ^ (h + 1)) dk) := by rw [add_plain, ← HN.out]; exact hca
              have own4 := ownB.ext hEa
              have lev4 := levk.ext hEa
              have hB4 := hBk.ext hEa
              have hE4 := hEok.trans hEa
              have hne8 : some w.heap.size ≠ blk A' := by
                intro e
                obtain ⟨cs, t, fr, h1, h2, h3⟩ := lev4.other e.symm
                obtain ⟨vs, h4, _⟩ := lev4
                obtain ⟨cs', h5⟩ := row_type h4 (k := w.heap.size) (by rw [ownBlock_slice]; exact e.symm)
                rw [show _ = _ from hB4] at h5
                injection h5 with h5
                injection h5 with _ h5
                revert h5
                decide
              clear hB lv ownk levk hBk hEok ownB hBa hca own
              go_wp2_with (refine appl_law (b := w.heap.size) (n := h + 1) (g := gk) (d := dk) (S := S) rfl rfl rfl rfl hca2 lev4 own4 hE4.size (by omega) ?_; intro A5 c5 w5 lev5 own5 g5; have hB5 := hB4.grown g5 hne8; have y5 := hB5.cell (i := 1) (v := .slice A' (h + 1) c') rfl; have y6 := hB5.frozen 1)
              have gs := grown_set w5 ⟨w.heap.size, 1, none⟩ (.slice A5 (h + 1 + 1) c5)
              have lev6 := lev5.far hB5 (by decide) (by decide) (by decide) gs
              have own6 := own5.far gs (fun k hk => by cases hk; exact hB5.other (by decide) (by decide))
              have hB6 := hB5.set 1 (.slice A5 (h + 1 + 1) c5)
              have hE6 := (hE4.then_grown g5 (fun b hb => (lev4.lt hb).1)).set (p := ⟨w.heap.size, 1, none⟩) (Nat.le_refl _) (.slice A5 (h + 1 + 1) c5)
              clear lev5 own5 g5 hB5 y5 y6 gs hB4 own4 y0
              go_roundw
              case rel => exact ⟨h + 1, dk, c5, _, A5, by omega, by rw [HN.out], own6, lev6, hB6, hE6⟩
              case measure => simp [sliceLen]; omega
        · obtain rfl : h = 4 := by omega
          have e4 : (Value.slice P (16 / 2 ^ 4) d) = .slice P 1 d := rfl
          rw [e4]
          clear e4
          go_wp2_with fail
          go_ret
          exact ⟨w.heap.size, rfl, ⟨A, c, A', c', hr.ext hEo, hB, lv⟩, hEo⟩
end Go.Proofs.YtkndgpjamijbbaaGreat
namespace Go.Proofs.YtkndgpjamijbbaaGreat
set_option maxRecDepth 100000
open Go Go.RowKit
def all32 (Ls : List (List UInt8)) : Prop := ∀ i, i < Ls.length → (lb Ls i).length = 32
open Classical in
noncomputable def hashB (Ls : List (List UInt8)) (k : Nat) : Bool := decide (Ls.length = k ∧ all32 Ls)
noncomputable def rightB (x : Int) (Ps Qs : List (List UInt8)) : Bool := decide (0 ≤ x ∧ x < 16) && hashB Ps 64 && hashB Qs 4
noncomputable def verB (X M : List UInt8) (x : Int) (Ps Qs : List (List UInt8)) : Bool := rightB x Ps Qs && decide (climb x.toNat (rootV M Ps) Qs 4 = X)
theorem not32_any (B : Option Addr) (m d : Nat) (w : World) : Calls Tryz.prog 107 #[.slice B m d] w fun e w' => e = .returned (.bool (decide (m ≠ 32))) ∧ w' = w := by
  have e : decide ((m : Int) ≠ 32) = decide (m ≠ 32) := by
    apply decide_eq_decide.2
    omega
  go_enter Tryz.func107, Tryz.ntmps107
  go_wp2_with fail
  go_ret
  refine ⟨?_, rfl⟩
  rw [← e]
  by_cases h : (m : Int) = 32 <;> simp [h]
def IdxI (w : World) (Ls : List (List UInt8)) (i : Value) (wr : World) : Prop :=
  ∃ k : Nat, k ≤ Ls.length ∧ i = .int .i64 k ∧ (∀ j, j < k → (lb Ls j).length = 32) ∧ wr = w
set_option maxHeartbeats 2000000 in
theorem indexf_any (A : Option Addr) (n c : Nat) (Ls : List (List UInt8)) (w : World) (hr : RBB w A n c Ls) :
    Calls Tryz.prog 109 #[.slice A n c, .func (.func 107) #[] #[]] w fun e w' => (∃ x : Int, e = .returned (.int .i64 x) ∧ (all32 Ls → x = -1) ∧ (¬ all32 Ls → 0 ≤ x)) ∧ w' = w := by
  have hcap := hr.cap
  have hroom := hr.room
  unfold maxLen at hcap
  have hl := hr.len
  have Hl := Lib.hid hl
  clear hl
  go_enter Tryz.func109, Tryz.ntmps109
  go_wp2_with fail
  go_loopw [8] (fun i wr => IdxI w Ls i wr) (fun i _ => n - (intOf i).toNat)
  case atStart => exact ⟨0, by omega, rfl, fun j hj => absurd hj (Nat.not_lt_zero _), rfl⟩
  case round =>
    obtain ⟨k, hk, rfl, hall, rfl⟩ := hrel
    rw [Hl.out] at hk
    have Hall := Lib.hid hall
    clear hall
    by_cases hlt : k < n
    · have hki : (k : Int) < (n : Int) := by omega
      obtain ⟨ad, rfl, hc⟩ := hr.cells (by omega)
      obtain ⟨E, z, y, hcell, hrE⟩ := hc k hlt
      have hz := hrE.len
      have Hz := Lib.hid hz
      clear hz hc hrE
      go_wp2_with fail
      refine (not32_any E z y wr).mono ?_
      rintro e w2 ⟨rfl, rfl⟩
      by_cases h32 : z = 32
      · have e1 : decide (z ≠ 32) = false := by simp [h32]
        rw [e1]
        go_wp2_with fail
        go_roundw
        case rel =>
          refine ⟨k + 1, by rw [Hl.out]; omega, by go_num, fun j hj => ?_, rfl⟩
          by_cases hjk : j = k
          · subst hjk; rw [Hz.out]; exact h32
          · exact Hall.out j (by omega)
        case measure => simp [intOf]; omega
      · have e1 : decide (z ≠ 32) = true := by simp [h32]
        rw [e1]
        go_wp2_with fail
        go_ret
        refine ⟨⟨_, rfl, fun h => ?_, fun _ => by omega⟩, rfl⟩
        have h1 := h k (by rw [Hl.out]; omega)
        rw [Hz.out] at h1
        exact absurd h1 h32
    · obtain rfl : k = n := by omega
      go_wp2_with fail
      go_ret
      refine ⟨⟨_, rfl, fun _ => rfl, fun h => absurd (fun j hj => ?_) h⟩, rfl⟩
      exact Hall.out j (by rw [← Hl.out]; exact hj)
theorem containsf_any (A : Option Addr) (n c : Nat) (Ls : List (List UInt8)) (w : World) (hr : RBB w A n c Ls) :
    Calls Tryz.prog 106 #[.slice A n c, .func (.func 107) #[] #[]] w fun e w' => (∃ b, e = .returned (.bool b) ∧ (all32 Ls → b = false) ∧ (¬ all32 Ls → b = true)) ∧ w' = w := by
  go_enter Tryz.func106, Tryz.ntmps106
  go_wp2_with fail
  refine (indexf_any A n c Ls w hr).mono ?_
  rintro e w2 ⟨⟨x, rfl, h1, h2⟩, rfl⟩
  have Hx1 := Lib.hid h1
  have Hx2 := Lib.hid h2
  clear h1 h2
  go_wp2_with fail
  go_ret
  refine ⟨⟨_, rfl, fun h => ?_, fun h => ?_⟩, rfl⟩
  · have := Hx1.out h; simp; omega
  · have := Hx2.out h; simp; omega
theorem hashes_any (A : Option Addr) (n c k : Nat) (Ls : List (List UInt8)) (w : World) (hr : RBB w A n c Ls) :
    Calls Tryz.prog 97 #[.slice A n c, .int .i64 (k : Int)] w fun e w' => e = .returned (.bool (hashB Ls k)) ∧ w' = w := by
  have hl := hr.len
  have Hl := Lib.hid hl
  clear hl
  go_enter Tryz.func97, Tryz.ntmps97
  by_cases h : n = k
  · subst h
    go_wp2_with fail
    refine (containsf_any A n c Ls w hr).mono ?_
    rintro e w2 ⟨⟨b, rfl, h1, h2⟩, rfl⟩
    have hv : hashB Ls n = !b := by
      unfold hashB
      by_cases ha : all32 Ls
      · rw [h1 ha]; simp [Hl.out, ha]
      · rw [h2 ha]; simp [ha]
    have Hv := Lib.hid hv
    clear h1 h2 hv
    go_wp2_with fail
    go_ret
    exact ⟨by rw [Hv.out]; rfl, rfl⟩
  · have hv : hashB Ls k = false := by unfold hashB; simp [Hl.out, h]
    have hk : ¬ ((n : Int) = (k : Int)) := by omega
    have Hv := Lib.hid hv
    clear hv
    go_wp2_with fail
    go_ret
    exact ⟨by rw [Hv.out]; rfl, rfl⟩
theorem sright_any (x : Int) (P Q : Option Addr) (np cp nq cq : Nat) (Ps Qs : List (List UInt8)) (w : World) (hp : RBB w P np cp Ps) (hq : RBB w Q nq cq Qs) :
    Calls Tryz.prog 83 #[.agg #[.int .i64 x, .slice P np cp, .slice Q nq cq]] w fun e w' => e = .returned (.bool (rightB x Ps Qs)) ∧ Ext w w' := by
  have e64 : ((64 : Nat) : Int) = 64 := rfl
  have e4 : ((4 : Nat) : Int) = 4 := rfl
  have hE1 := Ext.new w (.cells #[.int .i64 x, .slice P np cp, .slice Q nq cq] 38)
  go_enter Tryz.func83, Tryz.ntmps83
  by_cases h0 : 0 ≤ x
  · by_cases h1 : x < 16
    · have h2 := hashes_any P np cp 64 Ps _ (hp.ext hE1)
      have h3 := hashes_any Q nq cq 4 Qs _ (hq.ext hE1)
      rw [e64] at h2
      rw [e4] at h3
      have H2 := Lib.hid h2
      have H3 := Lib.hid h3
      have hv : rightB x Ps Qs = (hashB Ps 64 && hashB Qs 4) := by unfold rightB; simp [h0, h1]
      have Hv := Lib.hid hv
      clear h2 h3 hv
      go_wp2_with fail
      refine H2.out.mono ?_
      rintro e w2 ⟨rfl, rfl⟩
      clear H2
      cases hb : hashB Ps 64 with
      | true =>
        have Hb := Lib.hid hb
        clear hb
        go_wp2_with fail
        refine H3.out.mono ?_
        rintro e w3 ⟨rfl, rfl⟩
        clear H3
        go_wp2_with fail
        go_ret
        exact ⟨by rw [Hv.out, Hb.out]; rfl, hE1⟩
      | false =>
        have Hb := Lib.hid hb
        clear hb
        go_wp2_with fail
        go_ret
        exact ⟨by rw [Hv.out, Hb.out]; rfl, hE1⟩
    · have hv : rightB x Ps Qs = false := by unfold rightB; simp [h1]
      have Hv := Lib.hid hv
      clear hv
      go_wp2_with fail
      go_ret
      exact ⟨by rw [Hv.out]; rfl, hE1⟩
  · have hv : rightB x Ps Qs = false := by unfold rightB; simp [h0]
    have Hv := Lib.hid hv
    clear hv
    go_wp2_with fail
    go_ret
    exact ⟨by rw [Hv.out]; rfl, hE1⟩
theorem rightB_true {x : Int} {Ps Qs : List (List UInt8)} (h : rightB x Ps Qs = true) : (∃ k : Nat, k < 16 ∧ x = k) ∧ rootOK Ps ∧ Qs.length = 4 ∧ ∀ i, i < 4 → (lb Qs i).length = 32 := by
  unfold rightB hashB at h
  simp only [Bool.and_eq_true, decide_eq_true_eq] at h
  obtain ⟨⟨⟨h0, h1⟩, h2, h3⟩, h4, h5⟩ := h
  refine ⟨⟨x.toNat, by omega, by omega⟩, ⟨h2, fun i hi => h3 i (by omega)⟩, h4, fun i hi => h5 i (by omega)⟩
def VerI (w1 : World) (k : Nat) (T : List UInt8) (Qs : List (List UInt8)) (t a i : Value) (wr : World) : Prop :=
  ∃ (h d : Nat) (A : Option Addr), h ≤ 4 ∧ i = .int .i64 h ∧ a = .int .i64 ((k / 2 ^ h : Nat) : Int) ∧ t = .slice A 32 d ∧ RB wr A 32 d (climb k T Qs h) ∧ Ext w1 wr
set_option maxHeartbeats 4000000 in
theorem sverify_any (B D P Q : Option Addr) (m e' nd cd np cp nq cq : Nat) (x : Int) (X M : List UInt8) (Ps Qs : List (List UInt8)) (w : World) (hX : RB w D nd cd X) (hM : RB w B m e' M) (hmn : m ≤ 140737488355000) (hp : RBB w P np cp Ps) (hq : RBB w Q nq cq Qs) :
    Calls Tryz.prog 62 #[.slice D nd cd, .slice B m e', .agg #[.int .i64 x, .slice P np cp, .slice Q nq cq]] w fun e w' => e = .returned (.bool (verB X M x Ps Qs)) ∧ Ext w w' := by
  go_enter Tryz.func62, Tryz.ntmps62
  have hE1 := Ext.new w (.cells #[.int .i64 x, .slice P np cp, .slice Q nq cq] 38)
  have hB1 := Blk.new w 38 #[.int .i64 x, .slice P np cp, .slice Q nq cq]
  go_wp2_with fail
  refine (sright_any x P Q np cp nq cq Ps Qs _ (hp.ext hE1) (hq.ext hE1)).mono ?_
  rintro e w2 ⟨rfl, hE2⟩
  have hE12 := hE1.trans hE2
  have hB2 := hB1.ext hE2
  clear hB1
  cases hr : rightB x Ps Qs with
  | false =>
    have hv : verB X M x Ps Qs = false := by unfold verB; rw [hr]; rfl
    have Hv := Lib.hid hv
    clear hv hr
    go_wp2_with fail
    go_ret
    exact ⟨by rw [Hv.out]; rfl, hE12⟩
  | true =>
    obtain ⟨⟨k, hk, rfl⟩, hok, hql, hq32⟩ := rightB_true hr
    have hv : verB X M (k : Int) Ps Qs = decide (climb k (rootV M Ps) Qs 4 = X) := by unfold verB; rw [hr]; simp
    have Hv := Lib.hid hv
    clear hv hr
    obtain rfl : nq = 4 := hq.len.symm.trans hql
    have y0 : w2.cell? ⟨w.heap.size, 0, none⟩ = some (.int .i64 (k : Int)) := hB2.cell (i := 0) rfl
    have y1 : w2.cell? ⟨w.heap.size, 1, none⟩ = some (.slice P np cp) := hB2.cell (i := 1) rfl
    go_wp2_with fail
    refine (root_any B P m e' np cp M Ps _ (hM.ext hE12) hmn (hp.ext hE12)).mono ?_
    rintro e w3 ⟨hroot, _, hE3⟩
    obtain ⟨A3, c3, rfl, own3⟩ := hroot hok
    obtain ⟨T, hT⟩ : ∃ T, T = rootV M Ps := ⟨_, rfl⟩
    rw [← hT] at own3 Hv
    clear hT hroot y0 y1
    have hE13 := hE12.trans hE3
    have hB3 := hB2.ext hE3
    have z0 : w3.cell? ⟨w.heap.size, 0, none⟩ = some (.int .i64 (k : Int)) := hB3.cell (i := 0) rfl
    have z2 : w3.cell? ⟨w.heap.size, 2, none⟩ = some (.slice Q 4 cq) := hB3.cell (i := 2) rfl
    have own3 := own3.rb
    go_wp2_with fail
    go_loopw [7, 9, 27] (fun t a i wr => VerI w3 k T Qs t a i wr) (fun _ _ i _ => 4 - (intOf i).toNat)
    case atStart => exact ⟨0, c3, A3, by omega, rfl, by simp, rfl, own3, Ext.refl _⟩
    case round =>
      clear own3 hB3 z0 z2
      obtain ⟨h, d, A, hh, rfl, rfl, rfl, own, hEr⟩ := hrel
      have hEw := hE13.trans hEr
      by_cases hlt : h < 4
      · have hhi : (h : Int) < 4 := by omega
        obtain ⟨ad, rfl, hc⟩ := hq.cells (by omega)
        obtain ⟨E, z, y, hcell, hrE⟩ := hc h hlt
        obtain rfl : z = 32 := hrE.len.symm.trans (hq32 h hlt)
        have y1 := hEw.cell hcell
        have rE := hrE.ext hEw
        have hl1 := Lib.hid rE.len
        have hl2 := Lib.hid own.len
        have hs3 := Lib.hid (step_lt hk hlt).2.2
        have hcl : climb k T Qs (h + 1) = climbB k h (climb k T Qs h) (lb Qs h) := rfl
        unfold climbB at hcl
        have Hcl := Lib.hid hcl
        clear hcl hcell hrE hc hq
        have hq16 : k / 2 ^ h < 16 := Nat.lt_of_le_of_lt (Nat.div_le_self _ _) hk
        generalize climb k T Qs h = V at *
        generalize lb Qs h = Y at *
        generalize k / 2 ^ h = q at *
        by_cases hq2 : q % 2 = 0
        · have hqi : (q : Int) % 2 = 0 := by omega
          have r2 := RBB.of2 own rE 26
          have hEa := Ext.new wr (.cells #[.slice A 32 d, .slice E 32 y] 26)
          have hta := htagged_any 14 _ 2 2 _ _ r2 (by simp only [List.flatten_cons, List.flatten_nil, List.length_append, List.length_nil, hl1.out, hl2.out]; omega)
          have e14 : u8i 14 = 14 := rfl
          rw [e14, show [V, Y].flatten = V ++ Y from by simp] at hta
          have Hta := Lib.hid hta
          have hcl2 : climb k T Qs (h + 1) = tagged 14 (V ++ Y) := by rw [Hcl.out, if_pos hq2]; rfl
          have Hcl2 := Lib.hid hcl2
          clear hta hcl2 e14
          go_wp2_with fail
          refine Hta.out.mono ?_
          rintro e w5 ⟨A5, c5, rfl, own5, hE5⟩
          go_wp2_with fail
          go_roundw
          case rel => exact ⟨h + 1, c5, A5, by omega, by go_num, by rw [hs3.out]; go_num, rfl, by rw [Hcl2.out]; exact own5.rb, (hEr.trans hEa).trans hE5⟩
          case measure => simp [intOf]; omega
        · have hqi : ¬ ((q : Int) % 2 = 0) := by omega
          have r2 := RBB.of2 rE own 26
          have hEa := Ext.new wr (.cells #[.slice E 32 y, .slice A 32 d] 26)
          have hta := htagged_any 14 _ 2 2 _ _ r2 (by simp only [List.flatten_cons, List.flatten_nil, List.length_append, List.length_nil, hl1.out, hl2.out]; omega)
          have e14 : u8i 14 = 14 := rfl
          rw [e14, show [Y, V].flatten = Y ++ V from by simp] at hta
          have Hta := Lib.hid hta
          have hcl2 : climb k T Qs (h + 1) = tagged 14 (Y ++ V) := by rw [Hcl.out, if_neg hq2]; rfl
          have Hcl2 := Lib.hid hcl2
          clear hta hcl2 e14
          go_wp2_with fail
          refine Hta.out.mono ?_
          rintro e w5 ⟨A5, c5, rfl, own5, hE5⟩
          go_wp2_with fail
          go_roundw
          case rel => exact ⟨h + 1, c5, A5, by omega, by go_num, by rw [hs3.out]; go_num, rfl, by rw [Hcl2.out]; exact own5.rb, (hEr.trans hEa).trans hE5⟩
          case measure => simp [intOf]; omega
      · obtain rfl : h = 4 := by omega
        have hsm := hsame_any A D 32 d nd cd _ X wr own (hX.ext hEw)
        have Hsm := Lib.hid hsm
        clear hsm
        go_wp2_with fail
        refine Hsm.out.mono ?_
        rintro e w6 ⟨rfl, rfl⟩
        go_wp2_with fail
        go_ret
        exact ⟨by rw [Hv.out]; rfl, hEw⟩
end Go.Proofs.YtkndgpjamijbbaaGreat
namespace Go.Proofs.YtkndgpjamijbbaaGreat
set_option maxRecDepth 100000
open Go Go.RowKit
def bare : Obj → Obj
  | .cells c e _ => .cells c e (0, 0)
  | o => o
/-- all blocks stay, but for the run-time's marks -/
structure Mk (w w' : World) : Prop where
  size : w.heap.size ≤ w'.heap.size
  at_ : ∀ i, i < w.heap.size → (w'.heap[i]?).map bare = (w.heap[i]?).map bare
theorem Mk.of_ext {w w' : World} (e : Ext w w') : Mk w w' := ⟨e.size, fun i hi => by rw [e.block hi]⟩
theorem cell_bare {w w' : World} {i : Nat} (h : (w'.heap[i]?).map bare = (w.heap[i]?).map bare) (p : Addr) (hp : p.block = i) : w'.cell? p = w.cell? p := by
  unfold World.cell?
  rw [hp]
  cases h1 : w.heap[i]? with
  | none =>
    rw [h1] at h
    cases h2 : w'.heap[i]? with
    | none => rfl
    | some o => rw [h2] at h; cases h
  | some o =>
    rw [h1] at h
    cases h2 : w'.heap[i]? with
    | none => rw [h2] at h; cases h
    | some o' =>
      rw [h2] at h
      simp only [Option.map_some, Option.some.injEq] at h
      cases o <;> cases o' <;> simp_all [bare]
theorem shape_bare {w w' : World} {i : Nat} (h : (w'.heap[i]?).map bare = (w.heap[i]?).map bare) : w'.shape? i = w.shape? i := by
  unfold World.shape?
  cases h1 : w.heap[i]? with
  | none =>
    rw [h1] at h
    cases h2 : w'.heap[i]? with
    | none => rfl
    | some o => rw [h2] at h; cases h
  | some o =>
    rw [h1] at h
    cases h2 : w'.heap[i]? with
    | none => rw [h2] at h; cases h
    | some o' =>
      rw [h2] at h
      simp only [Option.map_some, Option.some.injEq] at h
      cases o <;> cases o' <;> simp_all [bare]
theorem Mk.cell {w w' : World} (h : Mk w w') {p : Addr} {v : Value} (hc : w.cell? p = some v) : w'.cell? p = some v :=
  (cell_bare (h.at_ p.block (World.block_lt_of_cell? w p hc)) p rfl).trans hc
theorem RB.mk_ {w w' : World} {A : Option Addr} {n c : Nat} {L : List UInt8} (h : RB w A n c L) (e : Mk w w') : RB w' A n c L :=
  ⟨h.len, h.room, h.cap, fun hn => by
    obtain ⟨ad, ha, hc⟩ := h.cells hn
    exact ⟨ad, ha, fun j hj => e.cell (hc j hj)⟩⟩
theorem Runs.conv_w {P : Program} {o : Oper} {ρ : Operand → Value} {w w' : World} {G : Value → World → Prop} {s t : TypeId} {x : Operand} {u r : Value} (ho : o.op = .convert s t x) (hx : ρ x = u) (hr : (convert s t u).run P w = .ok r w') (h : G r w') : Runs P o ρ w G := by
  unfold Runs execOp
  simp only [ho, hx, Sem.run_bind, hr, Result.andThen_ok, Sem.run_pure]
  exact h
/-- a constant text's new row -/
def MP.lit (b m : Nat) (L : List UInt8) : MP Mk := ⟨fun u w => ∃ g, u = .slice (some ⟨g, 0, none⟩) m m ∧ RB w (some ⟨g, 0, none⟩) m m L ∧ w.shape? g = some (5, m) ∧ b ≤ g ∧ g < w.heap.size, fun _ _ _ e ⟨g, h1, h2, h3, h4, h5⟩ => ⟨g, h1, h2.mk_ e, (shape_bare (e.at_ g h5)).trans h3, h4, Nat.lt_of_lt_of_le h5 e.size⟩⟩
section
variable {P : Program} {ops : Array Oper} {H : List Tmp} {F : List (MP Mk)} {a0 : Act} {w0 : World} {i : Nat} {o : Oper}
end
end Go.Proofs.YtkndgpjamijbbaaGreat
namespace Go.Proofs.YtkndgpjamijbbaaGreat
set_option maxRecDepth 100000
open Go Go.RowKit
theorem verB_own (S M : List UInt8) (k : Nat) (hk : k < 16) : verB (ownP S) M (k : Int) ((List.range 64).map (partS (digestW M) S k)) (pathL S k) = true := by
  obtain ⟨⟨h1, h2⟩, h3⟩ := root_sign M S (k : Int)
  have h4 : (pathL S k).length = 4 := by simp [pathL]
  have h5 : ∀ i, i < 4 → (lb (pathL S k) i).length = 32 := by
    intro i hi
    unfold pathL
    rw [lb_range _ hi]
    exact lb_lev_length S i _ (step_lt hk hi).1
  unfold verB rightB hashB
  rw [h3]
  have h6 : ((k : Int)).toNat = k := rfl
  rw [h6, climb_own S k hk]
  simp only [Bool.and_eq_true, decide_eq_true_eq]
  exact ⟨⟨⟨⟨by omega, by omega⟩, h1, fun i hi => h2 i (by omega)⟩, h4, fun i hi => h5 i (by omega)⟩, trivial⟩
end Go.Proofs.YtkndgpjamijbbaaGreat

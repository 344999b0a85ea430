/-
  wire's Writer, walked: New, Byte, Num, Bytes, Raw, Done. ref5.New and an owner's public, walked.
-/
import Derived.Test.YtkndgpjamijbbaaLawPieces22Q17
import Derived.Test.YtkndgpjamijbbaaLawPieces22Q15
namespace Go.Proofs.Ytkndgpjamijbbaa
set_option maxRecDepth 100000
open Go Go.RowKit
/-- behind a call that wrote: the Writer holds M; nothing but its own memory was turned -/
def WP (wI w : World) (p : Nat) (A0 : Option Addr) (N : Nat) (M : List UInt8) (w' : World) : Prop := ∃ A c, Wtr w' wI.heap.size p A N c M ∧ Chg w w' p A0 ∧ Later w A0 A
theorem conv_u8_u32' {P : Program} {w : World} {s t : TypeId} (hs : P.underlying s = some (.int .u8)) (ht : P.underlying t = some (.int .u32)) (b : UInt8) : (convert s t (.int .u8 (u8i b))).run P w = .ok (.int .u32 (u32i b.toUInt32)) w := conv_u8_u32 hs ht b
set_option maxHeartbeats 400000 in
theorem wnew_any (w : World) : Calls Try.prog 120 #[] w fun e w' => ∃ p, e = .returned (.pointer (some ⟨p, 0, none⟩)) ∧ Wtr w' w.heap.size p none 0 0 [] ∧ Ext w w' := by
  go_enter Try.func120, Try.ntmps120
  go_wp2_with fail
  go_ret
  exact ⟨w.heap.size, rfl, ⟨Blk.new w _ _, OB.none_ _ _, by simp [blk], Nat.le_refl _⟩, Ext.new w _⟩
set_option maxHeartbeats 400000 in
theorem wnum_any (wI w : World) (p n0 c0 : Nat) (A0 : Option Addr) (X0 : List UInt8) (x : UInt32) (hEI : Ext wI w) (hW : Wtr w wI.heap.size p A0 n0 c0 X0) (hn : n0 ≤ 70368744177664) :
    Calls Try.prog 122 #[.pointer (some ⟨p, 0, none⟩), .int .u32 (u32i x)] w fun e w' => e = .returned (.tuple #[]) ∧ WP wI w p A0 (n0 + 4) (X0 ++ beBytes x 4) w' := by
  go_enter Try.func122, Try.ntmps122
  go_wp2_with fail
  refine (wnumber_any wI w p n0 c0 A0 X0 x 4 _ rfl (by omega) (by omega) hEI hW hn).mono ?_
  rintro e w' ⟨rfl, A, c, h1, h2, h3⟩
  go_wp2_with fail
  go_end0
  exact ⟨rfl, A, c, h1, h2, h3⟩
set_option maxHeartbeats 400000 in
theorem wraw_any (wI w : World) (p n0 c0 m d : Nat) (A0 B : Option Addr) (X0 M : List UInt8) (hEI : Ext wI w) (hW : Wtr w wI.heap.size p A0 n0 c0 X0) (hr : RB w B m d M) (hn : n0 + m ≤ 140737488355328) :
    Calls Try.prog 121 #[.pointer (some ⟨p, 0, none⟩), .slice B m d] w fun e w' => e = .returned (.tuple #[]) ∧ WP wI w p A0 (n0 + m) (X0 ++ M) w' := by
  have y1 := hW.blk.cell (i := 0) rfl
  have hb := hW.blk
  have own := hW.own
  go_enter Try.func121, Try.ntmps121
  go_wp2_with (refine app_law rfl rfl rfl rfl own hr hn hEI.size ?_; intro A' c' w1 own1 g1 b1 s1; have y2 := (hb.grown g1 (by intro e; exact hW.ne e.symm)).cell (i := 0) rfl; have y3 := (hb.grown g1 (by intro e; exact hW.ne e.symm)).frozen 0)
  have hb1 := hb.grown g1 (by intro e; exact hW.ne e.symm)
  have hne : blk A' ≠ some p := by
    rcases b1 with e | e
    · rw [e]; exact hW.ne
    · rw [e]; intro e2; cases e2; have := hb.lt; omega
  go_end0
  refine ⟨rfl, A', c', ⟨hb1.set 0 _, own1.far hne, hne, hW.base⟩, ⟨g1.os, g1.tape, g1.output, by simpa [World.setCell] using g1.size, fun k hk h1 h2 => ?_⟩, ?_⟩
  · exact (Below.heap_setCell w1 ⟨p, 0, none⟩ _ k h1).trans (g1.block k hk (fun e => h2 e.symm))
  · rcases b1 with e | e
    · exact .inl e
    · exact .inr (.inr ⟨_, e, Nat.le_refl _⟩)
theorem conv_i64_u32 {P : Program} {w : World} {s t : TypeId} (hs : P.underlying s = some (.int .i64)) (ht : P.underlying t = some (.int .u32)) (n : Nat) : (convert s t (.int .i64 (n : Int))).run P w = .ok (.int .u32 (u32i (UInt32.ofNat n))) w := by
  have e : IntKind.u32.wrap (n : Int) = u32i (UInt32.ofNat n) := by
    unfold u32i
    rw [u32_wrap, UInt32.toNat_ofNat']
  simp [convert, run_underlying hs, run_underlying ht, Conv.intToInt, e]
def be2 (n : Nat) : List UInt8 := beBytes (UInt32.ofNat n) 2
theorem WP.trans {wI w w1 w2 : World} {p N N' : Nat} {A0 : Option Addr} {M M' : List UInt8} {A : Option Addr} {c : Nat} (h1 : Wtr w1 wI.heap.size p A N c M) (h2 : Chg w w1 p A0) (h3 : Later w A0 A) (k : WP wI w1 p A N' M' w2) : WP wI w p A0 N' M' w2 := by
  obtain ⟨A', c', k1, k2, k3⟩ := k
  exact ⟨A', c', k1, h2.trans h3 k2, h3.trans h2.size k3⟩
set_option maxHeartbeats 400000 in
theorem wdone_any (w : World) (base p n0 c0 : Nat) (A0 : Option Addr) (X0 : List UInt8) (hW : Wtr w base p A0 n0 c0 X0) (hn : n0 ≤ 140737488355328) :
    Calls Try.prog 123 #[.pointer (some ⟨p, 0, none⟩)] w fun e w' => ∃ B d, e = .returned (.slice B n0 d) ∧ OB w' w.heap.size B n0 d X0 ∧ Ext w w' := by
  have y1 := hW.blk.cell (i := 0) rfl
  go_enter Try.func123, Try.ntmps123
  go_wp2_with fail
  refine (clone_any A0 n0 c0 X0 w hW.own.rb hn).mono ?_
  rintro e w1 ⟨B, d, rfl, h1, h2⟩
  go_wp2_with fail
  go_ret
  exact ⟨B, d, rfl, h1, h2⟩
end Go.Proofs.Ytkndgpjamijbbaa
namespace Go.Proofs.Ytkndgpjamijbbaa
set_option maxRecDepth 100000
open Go Go.RowKit
/-- an owner: its seed, its levels -/
def OwnR (w : World) (b g : Nat) (S : List UInt8) : Prop :=
  ∃ A c LA lc, RB w A 32 c S ∧ Blk w g 95 #[.slice A 32 c, .slice LA 5 lc] ∧ LevO w b LA 5 lc S
theorem OwnR.ext {w w' : World} {b g : Nat} {S : List UInt8} (h : OwnR w b g S) (e : Ext w w') : OwnR w' b g S := by
  obtain ⟨A, c, LA, lc, h1, h2, h3⟩ := h
  exact ⟨A, c, LA, lc, h1.ext e, h2.ext e, h3.ext e⟩
def NewI (w : World) (A0 : Option Addr) (c0 : Nat) (S : List UInt8) (v : Value) (wr : World) : Prop :=
  ∃ (h d c : Nat) (P A : Option Addr), h ≤ 4 ∧ v = .slice P (16 / 2 ^ h) d ∧ OBD wr w.heap.size P (16 / 2 ^ h) d (lev S h) ∧ LevO wr w.heap.size A (h + 1) c S ∧ Blk wr w.heap.size 95 #[.slice A0 32 c0, .slice A (h + 1) c] ∧ Ext w wr
set_option maxHeartbeats 4000000 in
theorem rnew_any (A : Option Addr) (c : Nat) (S : List UInt8) (w : World) (hr : RB w A 32 c S) :
    Calls Try.prog 22 #[.slice A 32 c] w fun e w' => ∃ g, e = .returned (.pointer (some ⟨g, 0, none⟩)) ∧ OwnR w' w.heap.size g S ∧ Ext w w' := by
  go_enter Try.func22, Try.ntmps22
  have hE1 := Ext.new w (.cells #[.slice A 32 c, .slice none 0 0] 95)
  have hB1 := Blk.new w 95 #[.slice A 32 c, .slice none 0 0]
  go_wp2_with fail
  go_loopw [4, 5] (fun v i wr => LeavesI (w.alloc (.cells #[.slice A 32 c, .slice none 0 0] 95)) S v i wr) (fun _ i _ => 16 - (intOf i).toNat)
  case atStart => exact ⟨0, 0, none, by omega, rfl, rfl, OBD.none_ _ _, Ext.refl _⟩
  case round =>
    obtain ⟨k, d, P, hk, rfl, rfl, own, hEr⟩ := hrel
    have hB2 := hB1.ext hEr
    have hE2 := hE1.trans hEr
    by_cases hlt : k < 16
    · have hki : (k : Int) < 16 := by omega
      go_wp2_with fail
      refine (r4public_any A 32 c S k wr (hr.ext hE2) (by omega)).mono ?_
      rintro e w3 ⟨A3, c3, rfl, own3, hE3⟩
      obtain ⟨ad3, rfl, _⟩ := own3.rb.cells (by omega)
      obtain ⟨g3, rfl⟩ := own3.plain
      have hEw := hEr.trans hE3
      have hEa := Ext.new w3 (.cells #[.slice (some ⟨g3, 0, none⟩) 32 c3] 22)
      have hBa := Blk.new w3 22 #[.slice (some ⟨g3, 0, none⟩) 32 c3]
      have own4 := (own.ext hE3).ext hEa
      have hne : some g3 ≠ blk P := by
        intro e
        have h1 := own3.ge
        have h2 := own.lt e.symm
        omega
      go_wp2_with (refine appbd_law (base := (w.alloc (.cells #[.slice A 32 c, .slice none 0 0] 95)).heap.size) (Y := publicL S ((k : Nat) : Int)) rfl rfl rfl rfl (by rw [add_plain]; exact hBa.cell (i := 0) rfl) own4 ((own3.base hEr.size).ext hEa) hne (hEw.trans hEa).size (by omega) ?_; intro P5 d5 w5 own5 g5)
      go_roundw
      case rel =>
        refine ⟨k + 1, d5, P5, by omega, by go_num, rfl, ?_, (hEw.trans hEa).then_grown g5 (fun b hb => (own4.lt hb).1)⟩
        rw [range_snoc]
        exact own5
      case measure => simp [intOf]; omega
    · obtain rfl : k = 16 := by omega
      have ownB := own.base hE1.size
      have y0 : wr.cell? ⟨w.heap.size, 1, none⟩ = some (.slice none 0 0) := hB2.cell (i := 1) rfl
      obtain ⟨gP, rfl⟩ := own.plain (by omega)
      have hEa := Ext.new wr (.cells #[.slice (some ⟨gP, 0, none⟩) 16 d] 23)
      have hBa := Blk.new wr 23 #[.slice (some ⟨gP, 0, none⟩) 16 d]
      have own4 : OBD (wr.alloc (.cells #[.slice (some ⟨gP, 0, none⟩) 16 d] 23)) w.heap.size (some ⟨gP, 0, none⟩) (16 / 2 ^ 0) d (lev S 0) := ownB.ext hEa
      have hB4 := hB2.ext hEa
      have hEs := (hE2.trans hEa).size
      go_wp2_with (refine appl_law (b := w.heap.size) (n := 0) (g := gP) (d := d) (S := S) rfl rfl rfl rfl (by rw [add_plain]; exact hBa.cell (i := 0) rfl) (LevO.none_ _ _ _) own4 hEs (by omega) ?_; intro A5 c5 w5 lev5 own5 g5; have hB5 := hB4.grown g5 (by intro e; cases e); have y5 := hB5.cell (i := 1) (v := .slice none 0 0) rfl; have y6 := hB5.frozen 1)
      have gs := grown_set w5 ⟨w.heap.size, 1, none⟩ (.slice A5 1 c5)
      have lev6 := lev5.far hB5 (by decide) (by decide) (by decide) gs
      have own6 := own5.far gs (fun k hk => by cases hk; exact hB5.other (by decide) (by decide))
      have hB6 := hB5.set 1 (.slice A5 1 c5)
      have hE6 := ((hE2.trans hEa).then_grown g5 (fun b hb => by cases hb)).set (p := ⟨w.heap.size, 1, none⟩) (Nat.le_refl _) (.slice A5 1 c5)
      clear lev5 own5 g5 hB5 y5 y6 gs hB4 own4 hBa y0 ownB own hB2
      go_loopw [4] (fun v wr => NewI w A c S v wr) (fun v _ => sliceLen v)
      case atStart => exact ⟨0, d, c5, _, A5, by omega, rfl, own6, lev6, hB6, hE6⟩
      case round =>
        clear lev6 own6 hB6 hE6 hEs hB1 hEr hE1 hE2 hEa
        obtain ⟨h, d, c', P, A', hh, rfl, own, lv, hB, hEo⟩ := hrel
        obtain ⟨wo, rfl⟩ : ∃ wo, wo = wr := ⟨_, rfl⟩
        by_cases hlt : h < 4
        · obtain ⟨p1, p2, p3, p4⟩ := pow_step hlt
          have hap := fun (wx : World) (g5 d5 : Nat) (hown : OBD wx w.heap.size (some ⟨g5, 0, none⟩) (16 / 2 ^ h / 2) d5 (upL (lev S h))) => (show OBD wx w.heap.size (some ⟨g5, 0, none⟩) (16 / 2 ^ (h + 1)) d5 (lev S (h + 1)) by rw [p3] at hown; exact hown)
          have Hap := Lib.hid hap
          have HN := Lib.hid p3
          have h5 : 1 < 16 / 2 ^ h := by omega
          have hup : upL (lev S h) = (List.range (16 / 2 ^ h / 2)).map fun i => nodeV (lb (lev S h) (2 * i)) (lb (lev S h) (2 * i + 1)) := by unfold upL; rw [own.len]
          have Hup := Lib.hid hup
          clear hap p3 p4 hup
          generalize lev S h = LV at *
          generalize 16 / 2 ^ h = N at *
          have hN : (1 : Int) < (N : Int) := by omega
          obtain ⟨g, rfl⟩ := own.plain (by omega)
          go_wp2_with fail
          go_loopw [6, 7] (fun v i wi => AboveI wo N LV v i wi) (fun _ i _ => N - (intOf i).toNat)
          case atStart => exact ⟨0, 0, none, by omega, rfl, rfl, OBD.none_ _ _, Ext.refl _⟩
          case round =>
            obtain ⟨k, dk, Pk, hk, rfl, rfl, ownk, hEk⟩ := hrel
            by_cases hlt2 : 2 * k + 1 < N
            · have hki : ((2 * k : Nat) : Int) < (N : Int) := by omega
              obtain ⟨g1, d1, hc1, o1⟩ := (own.ext hEk).cell (j := 2 * k) (by omega)
              obtain ⟨g2, d2, hc2, o2⟩ := (own.ext hEk).cell (j := 2 * k + 1) (by omega)
              have r1 := o1.rb
              have r2 := o2.rb
              have hl1 := r1.len
              have hl2 := r2.len
              have Hl1 := Lib.hid hl1
              have Hl2 := Lib.hid hl2
              clear hl1 hl2 o1 o2
              obtain ⟨X, hX⟩ : ∃ X, X = lb LV (2 * k) := ⟨_, rfl⟩
              obtain ⟨Y, hY⟩ : ∃ Y, Y = lb LV (2 * k + 1) := ⟨_, rfl⟩
              rw [← hX] at r1 Hl1
              rw [← hY] at r2 Hl2
              have HX := Lib.hid hX
              have HY := Lib.hid hY
              clear hX hY
              go_upto_region 13 with (fail)
              refine par_ext (n := 13) (by kernel_rfl) [.is (.slice (Pk) (k) (dk)), .is (.slice (some ⟨g, 0, none⟩) (N) (d)), .is (.int .i64 (((2 * k : Nat) : Int))), .is (.pointer (some ((⟨g, 0, none⟩ : Addr).add ((2 * k))))), .is (.slice (some ⟨g1, 0, none⟩) (32) (d1)), .is (.slice (some ⟨g, 0, none⟩) (N) (d)), .is (.int .i64 (((2 * k : Nat) : Int))), .is (.int .i64 (((2 * k : Nat) : Int) + (1 : Int))), .is (.pointer (some ((⟨g, 0, none⟩ : Addr).add (((2 * k) + 1))))), .is (.slice (some ⟨g2, 0, none⟩) (32) (d2)), .rbb ([X, Y]), .ob32 (wr.heap.size) (nodeV X Y), .one32 (wr.heap.size) (nodeV X Y)] rfl ⟨?_, ?_, ?_, ?_, ?_, ?_, ?_, ?_, ?_, ?_, ?_, ?_, ?_, trivial⟩ ?_
              · refine stepE rfl fun sdn sa sw sE sd sk => ?_
                have h6 : sa.eval (.tmp 6) = .slice (Pk) (k) (dk) := sk.old 6 rfl
                exact Runs.move rfl h6 ⟨Ext.refl _, rfl⟩
              · refine stepE rfl fun sdn sa sw sE sd sk => ?_
                have h4 : sa.eval (.tmp 4) = .slice (some ⟨g, 0, none⟩) (N) (d) := sk.old 4 rfl
                exact Runs.move rfl h4 ⟨Ext.refl _, rfl⟩
              · refine stepE rfl fun sdn sa sw sE sd sk => ?_
                have h7 : sa.eval (.tmp 7) = .int .i64 (((2 * k : Nat) : Int)) := sk.old 7 rfl
                exact Runs.move rfl h7 ⟨Ext.refl _, rfl⟩
              · refine stepE rfl fun sdn sa sw sE sd sk => ?_
                have h41 : sa.eval (.tmp 41) = .slice (some ⟨g, 0, none⟩) (N) (d) := sk.fact 1 41 rfl (sd 1 rfl)
                have h42 : sa.eval (.tmp 42) = .int .i64 (((2 * k : Nat) : Int)) := sk.fact 2 42 rfl (sd 2 rfl)
                exact Runs.idx rfl h41 h42 (run_idx_sl1 Try.underlying23 infZZ_eq infZZ_size ((2 * k)) (by omega) (by omega)) ⟨Ext.refl _, rfl⟩
              · refine stepE rfl fun sdn sa sw sE sd sk => ?_
                have h43 : sa.eval (.tmp 43) = .pointer (some ((⟨g, 0, none⟩ : Addr).add ((2 * k)))) := sk.fact 3 43 rfl (sd 3 rfl)
                exact Runs.load rfl h43 (run_load1 Try.underlying22 rfl (sE.cell hc1)) ⟨Ext.refl _, rfl⟩
              · refine stepE rfl fun sdn sa sw sE sd sk => ?_
                have h4 : sa.eval (.tmp 4) = .slice (some ⟨g, 0, none⟩) (N) (d) := sk.old 4 rfl
                exact Runs.move rfl h4 ⟨Ext.refl _, rfl⟩
              · refine stepE rfl fun sdn sa sw sE sd sk => ?_
                have h7 : sa.eval (.tmp 7) = .int .i64 (((2 * k : Nat) : Int)) := sk.old 7 rfl
                exact Runs.move rfl h7 ⟨Ext.refl _, rfl⟩
              · refine stepE rfl fun sdn sa sw sE sd sk => ?_
                have h46 : sa.eval (.tmp 46) = .int .i64 (((2 * k : Nat) : Int)) := sk.fact 6 46 rfl (sd 6 rfl)
                exact Runs.bin rfl h46 rfl (eqGuard_bin rfl) (bin_add64 _ _ _ (by omega) (by omega)) ⟨Ext.refl _, rfl⟩
              · refine stepE rfl fun sdn sa sw sE sd sk => ?_
                have h45 : sa.eval (.tmp 45) = .slice (some ⟨g, 0, none⟩) (N) (d) := sk.fact 5 45 rfl (sd 5 rfl)
                have h47 : sa.eval (.tmp 47) = .int .i64 (((2 * k : Nat) : Int) + (1 : Int)) := sk.fact 7 47 rfl (sd 7 rfl)
                exact Runs.idx rfl h45 h47 (run_idx_sl1 Try.underlying23 infZZ_eq infZZ_size (((2 * k) + 1)) (by omega) (by omega)) ⟨Ext.refl _, rfl⟩
              · refine stepE rfl fun sdn sa sw sE sd sk => ?_
                have h48 : sa.eval (.tmp 48) = .pointer (some ((⟨g, 0, none⟩ : Addr).add (((2 * k) + 1)))) := sk.fact 8 48 rfl (sd 8 rfl)
                exact Runs.load rfl h48 (run_load1 Try.underlying22 rfl (sE.cell hc2)) ⟨Ext.refl _, rfl⟩
              · refine stepE rfl fun sdn sa sw sE sd sk => ?_
                have h44 : sa.eval (.tmp 44) = .slice (some ⟨g1, 0, none⟩) (32) (d1) := sk.fact 4 44 rfl (sd 4 rfl)
                have h49 : sa.eval (.tmp 49) = .slice (some ⟨g2, 0, none⟩) (32) (d2) := sk.fact 9 49 rfl (sd 9 rfl)
                exact Runs.ss2 rfl h44 h49 (r1.ext sE) (r2.ext sE) (fun w1 e1 b1 => ⟨e1, _, _, _, rfl, b1⟩)
              · refine stepE rfl fun sdn sa sw sE sd sk => ?_
                obtain ⟨A50, n50, c50, h50, r50⟩ := sk.fact 10 50 rfl (sd 10 rfl)
                refine Runs.call (f := 60) (vs := [.int .u8 (u8i (14 : UInt8)), .slice (A50) (n50) (c50)]) rfl rfl rfl (by simp only [List.map_toArray, List.map_cons, List.map_nil, h50] <;> rfl) (ent60 _ _) ((rtagged_any (14 : UInt8) _ _ _ _ sw r50 (by simp only [List.flatten_cons, List.flatten_nil, List.length_append, List.length_nil, Hl1.out, Hl2.out]; omega)).mono ?_); rintro e w' ⟨A', c', rfl, own, hx⟩; obtain ⟨ad', rfl, _⟩ := own.rb.cells (by omega); obtain ⟨g', rfl⟩ := own.plain; exact ⟨_, rfl, hx, g', c', rfl, (show OB w' sw.heap.size _ 32 c' (nodeV X Y) by simpa [nodeV] using own).base sE.size⟩
              · refine stepE rfl fun sdn sa sw sE sd sk => ?_
                obtain ⟨g51, d51, h51, o51⟩ := sk.fact 11 51 rfl (sd 11 rfl)
                exact Runs.one1 rfl h51 (fun w1 e1 b1 => ⟨e1, _, _, _, rfl, b1, o51.ext e1⟩)
              intro vals W1 hE hv
              have e0 : vals 0 = .slice (Pk) (k) (dk) := hv 0 (by omega) 40 rfl
              have e1 : vals 1 = .slice (some ⟨g, 0, none⟩) (N) (d) := hv 1 (by omega) 41 rfl
              have e2 : vals 2 = .int .i64 (((2 * k : Nat) : Int)) := hv 2 (by omega) 42 rfl
              have e3 : vals 3 = .pointer (some ((⟨g, 0, none⟩ : Addr).add ((2 * k)))) := hv 3 (by omega) 43 rfl
              have e4 : vals 4 = .slice (some ⟨g1, 0, none⟩) (32) (d1) := hv 4 (by omega) 44 rfl
              have e5 : vals 5 = .slice (some ⟨g, 0, none⟩) (N) (d) := hv 5 (by omega) 45 rfl
              have e6 : vals 6 = .int .i64 (((2 * k : Nat) : Int)) := hv 6 (by omega) 46 rfl
              have e7 : vals 7 = .int .i64 (((2 * k : Nat) : Int) + (1 : Int)) := hv 7 (by omega) 47 rfl
              have e8 : vals 8 = .pointer (some ((⟨g, 0, none⟩ : Addr).add (((2 * k) + 1)))) := hv 8 (by omega) 48 rfl
              have e9 : vals 9 = .slice (some ⟨g2, 0, none⟩) (32) (d2) := hv 9 (by omega) 49 rfl
              obtain ⟨A50, n50, c50, e10, r50⟩ := hv 10 (by omega) 50 rfl
              obtain ⟨g51, d51, e11, o51⟩ := hv 11 (by omega) 51 rfl
              obtain ⟨x52, g52, d52, e12, hc52, o52⟩ := hv 12 (by omega) 52 rfl
              simp only [putAll, Act.put, List.take_succ_cons, List.take_zero, List.drop_succ_cons, List.drop_zero, List.drop_nil, List.take_nil, Nat.reduceAdd, List.setIfInBounds_toArray, List.set_cons_succ, List.set_cons_zero, e0, e1, e2, e3, e4, e5, e6, e7, e8, e9, e10, e11, e12]
              clear hv e0 e1 e2 e3 e4 e5 e6 e7 e8 e9 e10 e11 e12
              have ownW := ownk.ext hE
              have hEw := hEk.trans hE
              have hne : some g52 ≠ blk Pk := by
                intro e
                have h1 := o52.ge
                have h2 := ownk.lt e.symm
                omega
              have oV := o52.base hEk.size
              go_wp2_with (refine appbd_law (base := wo.heap.size) (Y := nodeV X Y) rfl rfl rfl rfl hc52 ownW oV hne hEw.size (by omega) ?_; intro P5 d5 w5 own5 g5)
              go_roundw
              case rel =>
                refine ⟨k + 1, d5, P5, by omega, by go_num, rfl, ?_, hEw.then_grown g5 (fun b hb => (ownW.lt hb).1)⟩
                rw [range_snoc, ← HX.out, ← HY.out]
                exact own5
              case measure => simp [intOf]; omega
            · obtain rfl : k = N / 2 := by omega
              have hki : ¬ (((2 * (N / 2) : Nat) : Int) < (N : Int)) := by omega
              rw [← Hup.out] at ownk
              obtain ⟨gk, rfl⟩ := ownk.plain (by omega)
              have ownB := Hap.out _ _ _ (ownk.base hEo.size)
              have levk := lv.ext hEk
              have hBk := hB.ext hEk
              have hEok := hEo.trans hEk
              have y0 : wr.cell? ⟨w.heap.size, 1, none⟩ = some (.slice A' (h + 1) c') := hBk.cell (i := 1) rfl
              have hEa := Ext.new wr (.cells #[.slice (some ⟨gk, 0, none⟩) (N / 2) dk] 23)
              have hBa := Blk.new wr 23 #[.slice (some ⟨gk, 0, none⟩) (N / 2) dk]
              have hca := hBa.cell (i := 0) rfl
              have hca2 : (wr.alloc (.cells #[.slice (some ⟨gk, 0, none⟩) (N / 2) dk] 23)).cell? ((⟨wr.heap.size, 0, none⟩ : Addr).add 0) = some (.slice (some ⟨gk, 0, none⟩) (16 / 2 ^ (h + 1)) dk) := by rw [add_plain, ← HN.out]; exact hca
              have own4 := ownB.ext hEa
              have lev4 := levk.ext hEa
              have hB4 := hBk.ext hEa
              have hE4 := hEok.trans hEa
              have hne8 : some w.heap.size ≠ blk A' := by
                intro e
                obtain ⟨cs, t, fr, h1, h2, h3⟩ := lev4.other e.symm
                obtain ⟨vs, h4, _⟩ := lev4
                obtain ⟨cs', h5⟩ := row_type h4 (k := w.heap.size) (by rw [ownBlock_slice]; exact e.symm)
                rw [show _ = _ from hB4] at h5
                injection h5 with h5
                injection h5 with _ h5
                revert h5
                decide
              clear hB lv ownk levk hBk hEok ownB hBa hca own
              go_wp2_with (refine appl_law (b := w.heap.size) (n := h + 1) (g := gk) (d := dk) (S := S) rfl rfl rfl rfl hca2 lev4 own4 hE4.size (by omega) ?_; intro A5 c5 w5 lev5 own5 g5; have hB5 := hB4.grown g5 hne8; have y5 := hB5.cell (i := 1) (v := .slice A' (h + 1) c') rfl; have y6 := hB5.frozen 1)
              have gs := grown_set w5 ⟨w.heap.size, 1, none⟩ (.slice A5 (h + 1 + 1) c5)
              have lev6 := lev5.far hB5 (by decide) (by decide) (by decide) gs
              have own6 := own5.far gs (fun k hk => by cases hk; exact hB5.other (by decide) (by decide))
              have hB6 := hB5.set 1 (.slice A5 (h + 1 + 1) c5)
              have hE6 := (hE4.then_grown g5 (fun b hb => (lev4.lt hb).1)).set (p := ⟨w.heap.size, 1, none⟩) (Nat.le_refl _) (.slice A5 (h + 1 + 1) c5)
              clear lev5 own5 g5 hB5 y5 y6 gs hB4 own4 y0
              go_roundw
              case rel => exact ⟨h + 1, dk, c5, _, A5, by omega, by rw [HN.out], own6, lev6, hB6, hE6⟩
              case measure => simp [sliceLen]; omega
        · obtain rfl : h = 4 := by omega
          have e4 : (Value.slice P (16 / 2 ^ 4) d) = .slice P 1 d := rfl
          rw [e4]
          clear e4
          go_wp2_with fail
          go_ret
          exact ⟨w.heap.size, rfl, ⟨A, c, A', c', hr.ext hEo, hB, lv⟩, hEo⟩
end Go.Proofs.Ytkndgpjamijbbaa

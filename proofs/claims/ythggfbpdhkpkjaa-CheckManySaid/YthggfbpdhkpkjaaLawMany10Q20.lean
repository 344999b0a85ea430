/-
  sign.above, sign.leaves, sign.Public and sign.Sign, walked.
-/
import Derived.Test.YthggfbpdhkpkjaaLawMany10Q19
namespace Go.Proofs.Ythggfbpdhkpkjaa
set_option maxRecDepth 100000
open Go Go.RowKit
noncomputable def infZZ : TypeInfo := (Try.prog.info? 22).getD default
theorem infZZ_eq : Try.prog.info? 22 = some infZZ := by kernel_rfl
theorem infZZ_size : infZZ.size = 1 := by kernel_rfl
theorem OBD.len {w : World} {base n c : Nat} {A : Option Addr} {Ls : List (List UInt8)} (h : OBD w base A n c Ls) : Ls.length = n := by
  obtain ⟨vs, _, h2, _⟩ := h
  exact h2
theorem OBD.plain {w : World} {base n c : Nat} {A : Option Addr} {Ls : List (List UInt8)} (h : OBD w base A n c Ls) (hn : 0 < n) : ∃ g, A = some ⟨g, 0, none⟩ := by
  obtain ⟨ad, rfl, _⟩ := h.obc.rbb.cells hn
  obtain ⟨g, rfl⟩ := h.obc.plain
  exact ⟨g, rfl⟩
theorem OBD.cell {w : World} {base n c g : Nat} {Ls : List (List UInt8)} (h : OBD w base (some ⟨g, 0, none⟩) n c Ls) {j : Nat} (hj : j < n) :
    ∃ g' d', w.cell? ((⟨g, 0, none⟩ : Addr).add j) = some (.slice (some ⟨g', 0, none⟩) 32 d') ∧ OB w base (some ⟨g', 0, none⟩) 32 d' (lb Ls j) := by
  obtain ⟨vs, h1, h2, h3⟩ := h
  obtain ⟨g', d', h4, h5, _⟩ := h3 j hj
  exact ⟨g', d', World.ownsRow.cells h1 (g := g) (by rw [ownBlock_slice]; rfl) j _ h4, h5⟩
theorem OBD.grown {w w' : World} {base n c : Nat} {A : Option Addr} {Ls : List (List UInt8)} (h : OBD w base A n c Ls) {row : Option Nat} (e : w.grownBy w' row) (hr : ∀ k, row = some k → k < base) : OBD w' base A n c Ls := by
  have hA : Value.ownBlock (.slice A n c) = none ∨ Value.ownBlock (.slice A n c) ≠ row := by
    rw [ownBlock_slice]
    cases hb : blk A with
    | none => exact .inl rfl
    | some k =>
      refine .inr fun e => ?_
      have h1 := (h.lt hb).1
      have h2 := hr k e.symm
      omega
  obtain ⟨vs, h1, h2, h3⟩ := h
  refine ⟨vs, World.ownsRow.kept h1 e hA, h2, fun j hj => ?_⟩
  obtain ⟨g, d, h4, h5, h6⟩ := h3 j hj
  refine ⟨g, d, h4, h5.grown e (.inr fun e' => ?_), h6⟩
  have h7 := h5.ge
  have h8 := hr g e'.symm
  omega
def MP.one32 (b : Nat) (L : List UInt8) : MP Ext := ⟨fun u w => ∃ x g d, u = .slice (some ⟨x, 0, none⟩) 1 1 ∧ w.cell? ((⟨x, 0, none⟩ : Addr).add 0) = some (.slice (some ⟨g, 0, none⟩) 32 d) ∧ OB w b (some ⟨g, 0, none⟩) 32 d L, fun _ _ _ e ⟨x, g, d, h1, h2, h3⟩ => ⟨x, g, d, h1, e.cell h2, h3.ext e⟩⟩
def MP.one1 (v : Value) : MP Ext := ⟨fun u w => ∃ x, u = .slice (some ⟨x, 0, none⟩) 1 1 ∧ w.cell? ((⟨x, 0, none⟩ : Addr).add 0) = some v, fun _ _ _ e ⟨x, h1, h2⟩ => ⟨x, h1, e.cell h2⟩⟩
def MP.ob32 (b : Nat) (L : List UInt8) : MP Ext := ⟨fun u w => ∃ g d, u = .slice (some ⟨g, 0, none⟩) 32 d ∧ OB w b (some ⟨g, 0, none⟩) 32 d L, fun _ _ _ e ⟨g, d, h1, h2⟩ => ⟨g, d, h1, h2.ext e⟩⟩
theorem Runs.one1 {o : Oper} {ρ : Operand → Value} {w : World} {G : Value → World → Prop} {y0 : Operand} {B0 : Option Addr} {m0 d0 : Nat} (ho : o.op = .buildSlice 37 1 #[(0, y0)]) (e0 : ρ y0 = .slice B0 m0 d0)
    (h : ∀ w', Ext w w' → w'.cell? ((⟨w.heap.size, 0, none⟩ : Addr).add 0) = some (.slice B0 m0 d0) → G (.slice (some ⟨w.heap.size, 0, none⟩) 1 1) w') : Runs Try.prog o ρ w G := by
  refine Runs.of_run (r := .slice (some ⟨w.heap.size, 0, none⟩) 1 1) ?_ (h _ (Ext.new w _) (by rw [add_plain]; exact (Blk.new w 22 #[.slice B0 m0 d0]).cell (i := 0) rfl))
  unfold execOp
  simp only [ho, e0, List.map_toArray, List.map_cons, List.map_nil, Sem.run_bind, run_ss1, Result.andThen_ok, Sem.run_pure]
def AboveI (w : World) (n : Nat) (Ls : List (List UInt8)) (v i : Value) (wr : World) : Prop :=
  ∃ (k d : Nat) (P : Option Addr), 2 * k ≤ n ∧ i = .int .i64 ((2 * k : Nat) : Int) ∧ v = .slice P k d ∧ OBD wr w.heap.size P k d ((List.range k).map fun i => nodeV (lb Ls (2 * i)) (lb Ls (2 * i + 1))) ∧ Ext w wr
set_option maxHeartbeats 4000000 in
theorem above_own (A : Option Addr) (n c b : Nat) (Ls : List (List UInt8)) (w : World) (h : OBD w b A n c Ls) (hn : n ≤ 16) (hev : n % 2 = 0) :
    Calls Try.prog 106 #[.slice A n c] w fun e w' => ∃ P d, e = .returned (.slice P (n / 2) d) ∧ OBD w' w.heap.size P (n / 2) d (upL Ls) ∧ Ext w w' := by
  have hl := h.len
  have hup : upL Ls = (List.range (n / 2)).map fun i => nodeV (lb Ls (2 * i)) (lb Ls (2 * i + 1)) := by unfold upL; rw [hl]
  rw [hup]
  clear hup hl
  go_enter Try.func106, Try.ntmps106
  go_wp2_with fail
  go_loopw [3, 4] (fun v i wr => AboveI w n Ls v i wr) (fun _ i _ => n - (intOf i).toNat)
  case atStart => exact ⟨0, 0, none, by omega, rfl, rfl, OBD.none_ _ _, Ext.refl _⟩
  case round =>
    obtain ⟨k, d, P, hk, rfl, rfl, own, hEr⟩ := hrel
    by_cases hlt : 2 * k + 1 < n
    · have hki : ((2 * k : Nat) : Int) + 1 < (n : Int) := by omega
      obtain ⟨g, rfl⟩ := h.plain (by omega)
      obtain ⟨g1, d1, hc1, o1⟩ := (h.ext hEr).cell (j := 2 * k) (by omega)
      obtain ⟨g2, d2, hc2, o2⟩ := (h.ext hEr).cell (j := 2 * k + 1) (by omega)
      have r1 := o1.rb
      have r2 := o2.rb
      have hl1 := r1.len
      have hl2 := r2.len
      have Hl1 := Lib.hid hl1
      have Hl2 := Lib.hid hl2
      clear hl1 hl2 o1 o2
      obtain ⟨X, hX⟩ : ∃ X, X = lb Ls (2 * k) := ⟨_, rfl⟩
      obtain ⟨Y, hY⟩ : ∃ Y, Y = lb Ls (2 * k + 1) := ⟨_, rfl⟩
      rw [← hX] at r1 Hl1
      rw [← hY] at r2 Hl2
      have HX := Lib.hid hX
      have HY := Lib.hid hY
      clear hX hY
      go_upto_region 5 with (fail)
      refine par_ext (n := 13) (by kernel_rfl) [.is (.slice (P) (k) (d)), .is (.slice (some ⟨g, 0, none⟩) (n) (c)), .is (.int .i64 (((2 * k : Nat) : Int))), .is (.pointer (some ((⟨g, 0, none⟩ : Addr).add ((2 * k))))), .is (.slice (some ⟨g1, 0, none⟩) (32) (d1)), .is (.slice (some ⟨g, 0, none⟩) (n) (c)), .is (.int .i64 (((2 * k : Nat) : Int))), .is (.int .i64 (((2 * k : Nat) : Int) + (1 : Int))), .is (.pointer (some ((⟨g, 0, none⟩ : Addr).add (((2 * k) + 1))))), .is (.slice (some ⟨g2, 0, none⟩) (32) (d2)), .rbb ([X, Y]), .ob32 (wr.heap.size) (nodeV X Y), .one32 (wr.heap.size) (nodeV X Y)] rfl ⟨?_, ?_, ?_, ?_, ?_, ?_, ?_, ?_, ?_, ?_, ?_, ?_, ?_, trivial⟩ ?_
      · refine stepE rfl fun sdn sa sw sE sd sk => ?_
        have h3 : sa.eval (.tmp 3) = .slice (P) (k) (d) := sk.old 3 rfl
        exact Runs.move rfl h3 ⟨Ext.refl _, rfl⟩
      · refine stepE rfl fun sdn sa sw sE sd sk => ?_
        have h0 : sa.eval (.tmp 0) = .slice (some ⟨g, 0, none⟩) (n) (c) := sk.old 0 rfl
        exact Runs.move rfl h0 ⟨Ext.refl _, rfl⟩
      · refine stepE rfl fun sdn sa sw sE sd sk => ?_
        have h4 : sa.eval (.tmp 4) = .int .i64 (((2 * k : Nat) : Int)) := sk.old 4 rfl
        exact Runs.move rfl h4 ⟨Ext.refl _, rfl⟩
      · refine stepE rfl fun sdn sa sw sE sd sk => ?_
        have h13 : sa.eval (.tmp 13) = .slice (some ⟨g, 0, none⟩) (n) (c) := sk.fact 1 13 rfl (sd 1 rfl)
        have h14 : sa.eval (.tmp 14) = .int .i64 (((2 * k : Nat) : Int)) := sk.fact 2 14 rfl (sd 2 rfl)
        exact Runs.idx rfl h13 h14 (run_idx_sl1 Try.underlying37 infZZ_eq infZZ_size ((2 * k)) (by omega) (by omega)) ⟨Ext.refl _, rfl⟩
      · refine stepE rfl fun sdn sa sw sE sd sk => ?_
        have h15 : sa.eval (.tmp 15) = .pointer (some ((⟨g, 0, none⟩ : Addr).add ((2 * k)))) := sk.fact 3 15 rfl (sd 3 rfl)
        exact Runs.load rfl h15 (run_load1 Try.underlying22 rfl (sE.cell hc1)) ⟨Ext.refl _, rfl⟩
      · refine stepE rfl fun sdn sa sw sE sd sk => ?_
        have h0 : sa.eval (.tmp 0) = .slice (some ⟨g, 0, none⟩) (n) (c) := sk.old 0 rfl
        exact Runs.move rfl h0 ⟨Ext.refl _, rfl⟩
      · refine stepE rfl fun sdn sa sw sE sd sk => ?_
        have h4 : sa.eval (.tmp 4) = .int .i64 (((2 * k : Nat) : Int)) := sk.old 4 rfl
        exact Runs.move rfl h4 ⟨Ext.refl _, rfl⟩
      · refine stepE rfl fun sdn sa sw sE sd sk => ?_
        have h18 : sa.eval (.tmp 18) = .int .i64 (((2 * k : Nat) : Int)) := sk.fact 6 18 rfl (sd 6 rfl)
        exact Runs.bin rfl h18 rfl (eqGuard_bin rfl) (bin_add64 _ _ _ (by omega) (by omega)) ⟨Ext.refl _, rfl⟩
      · refine stepE rfl fun sdn sa sw sE sd sk => ?_
        have h17 : sa.eval (.tmp 17) = .slice (some ⟨g, 0, none⟩) (n) (c) := sk.fact 5 17 rfl (sd 5 rfl)
        have h19 : sa.eval (.tmp 19) = .int .i64 (((2 * k : Nat) : Int) + (1 : Int)) := sk.fact 7 19 rfl (sd 7 rfl)
        exact Runs.idx rfl h17 h19 (run_idx_sl1 Try.underlying37 infZZ_eq infZZ_size (((2 * k) + 1)) (by omega) (by omega)) ⟨Ext.refl _, rfl⟩
      · refine stepE rfl fun sdn sa sw sE sd sk => ?_
        have h20 : sa.eval (.tmp 20) = .pointer (some ((⟨g, 0, none⟩ : Addr).add (((2 * k) + 1)))) := sk.fact 8 20 rfl (sd 8 rfl)
        exact Runs.load rfl h20 (run_load1 Try.underlying22 rfl (sE.cell hc2)) ⟨Ext.refl _, rfl⟩
      · refine stepE rfl fun sdn sa sw sE sd sk => ?_
        have h16 : sa.eval (.tmp 16) = .slice (some ⟨g1, 0, none⟩) (32) (d1) := sk.fact 4 16 rfl (sd 4 rfl)
        have h21 : sa.eval (.tmp 21) = .slice (some ⟨g2, 0, none⟩) (32) (d2) := sk.fact 9 21 rfl (sd 9 rfl)
        exact Runs.ss2 rfl h16 h21 (r1.ext sE) (r2.ext sE) (fun w1 e1 b1 => ⟨e1, _, _, _, rfl, b1⟩)
      · refine stepE rfl fun sdn sa sw sE sd sk => ?_
        obtain ⟨A22, n22, c22, h22, r22⟩ := sk.fact 10 22 rfl (sd 10 rfl)
        refine Runs.call (f := 103) (vs := [.int .u8 (u8i (14 : UInt8)), .slice (A22) (n22) (c22)]) rfl rfl rfl (by simp only [List.map_toArray, List.map_cons, List.map_nil, h22] <;> rfl) (ent103 _ _) ((htagged_any (14 : UInt8) _ _ _ _ sw r22 (by simp only [List.flatten_cons, List.flatten_nil, List.length_append, List.length_nil, Hl1.out, Hl2.out]; omega)).mono ?_); rintro e w' ⟨A', c', rfl, own, hx⟩; obtain ⟨ad', rfl, _⟩ := own.rb.cells (by omega); obtain ⟨g', rfl⟩ := own.plain; exact ⟨_, rfl, hx, g', c', rfl, (show OB w' sw.heap.size _ 32 c' (nodeV X Y) by simpa [nodeV] using own).base sE.size⟩
      · refine stepE rfl fun sdn sa sw sE sd sk => ?_
        obtain ⟨g23, d23, h23, o23⟩ := sk.fact 11 23 rfl (sd 11 rfl)
        exact Runs.one1 rfl h23 (fun w1 e1 b1 => ⟨e1, _, _, _, rfl, b1, o23.ext e1⟩)
      intro vals W1 hE hv
      have e0 : vals 0 = .slice (P) (k) (d) := hv 0 (by omega) 12 rfl
      have e1 : vals 1 = .slice (some ⟨g, 0, none⟩) (n) (c) := hv 1 (by omega) 13 rfl
      have e2 : vals 2 = .int .i64 (((2 * k : Nat) : Int)) := hv 2 (by omega) 14 rfl
      have e3 : vals 3 = .pointer (some ((⟨g, 0, none⟩ : Addr).add ((2 * k)))) := hv 3 (by omega) 15 rfl
      have e4 : vals 4 = .slice (some ⟨g1, 0, none⟩) (32) (d1) := hv 4 (by omega) 16 rfl
      have e5 : vals 5 = .slice (some ⟨g, 0, none⟩) (n) (c) := hv 5 (by omega) 17 rfl
      have e6 : vals 6 = .int .i64 (((2 * k : Nat) : Int)) := hv 6 (by omega) 18 rfl
      have e7 : vals 7 = .int .i64 (((2 * k : Nat) : Int) + (1 : Int)) := hv 7 (by omega) 19 rfl
      have e8 : vals 8 = .pointer (some ((⟨g, 0, none⟩ : Addr).add (((2 * k) + 1)))) := hv 8 (by omega) 20 rfl
      have e9 : vals 9 = .slice (some ⟨g2, 0, none⟩) (32) (d2) := hv 9 (by omega) 21 rfl
      obtain ⟨A22, n22, c22, e10, r22⟩ := hv 10 (by omega) 22 rfl
      obtain ⟨g23, d23, e11, o23⟩ := hv 11 (by omega) 23 rfl
      obtain ⟨x24, g24, d24, e12, hc24, o24⟩ := hv 12 (by omega) 24 rfl
      simp only [putAll, Act.put, List.take_succ_cons, List.take_zero, List.drop_succ_cons, List.drop_zero, List.drop_nil, List.take_nil, Nat.reduceAdd, List.setIfInBounds_toArray, List.set_cons_succ, List.set_cons_zero, e0, e1, e2, e3, e4, e5, e6, e7, e8, e9, e10, e11, e12]
      clear hv e0 e1 e2 e3 e4 e5 e6 e7 e8 e9 e10 e11 e12
      have ownW := own.ext hE
      have hEw := hEr.trans hE
      have hne : some g24 ≠ blk P := by
        intro e
        have h1 := o24.ge
        have h2 := own.lt e.symm
        omega
      have oV := o24.base hEr.size
      go_wp2_with (refine appbd_law (base := w.heap.size) (Y := nodeV X Y) rfl rfl rfl rfl hc24 ownW oV hne hEw.size (by omega) ?_; intro P5 d5 w5 own5 g5)
      go_roundw
      case rel =>
        refine ⟨k + 1, d5, P5, by omega, by go_num, rfl, ?_, hEw.then_grown g5 (fun b hb => (ownW.lt hb).1)⟩
        rw [range_snoc, ← HX.out, ← HY.out]
        exact own5
      case measure => simp [intOf]; omega
    · obtain rfl : k = n / 2 := by omega
      have hki : ¬ (((2 * (n / 2) : Nat) : Int) + 1 < (n : Int)) := by omega
      go_wp2_with fail
      go_ret
      exact ⟨P, d, rfl, own, hEr⟩
def LeavesI (w : World) (S : List UInt8) (v i : Value) (wr : World) : Prop :=
  ∃ (k d : Nat) (P : Option Addr), k ≤ 16 ∧ i = .int .i64 k ∧ v = .slice P k d ∧ OBD wr w.heap.size P k d ((List.range k).map fun k => publicL S ((k : Nat) : Int)) ∧ Ext w wr
set_option maxHeartbeats 4000000 in
theorem leaves_own (A : Option Addr) (n c : Nat) (S : List UInt8) (w : World) (hr : RB w A n c S) (hn : n ≤ 140737488355000) :
    Calls Try.prog 105 #[.slice A n c] w fun e w' => ∃ P d, e = .returned (.slice P 16 d) ∧ OBD w' w.heap.size P 16 d (leavesL S) ∧ Ext w w' := by
  unfold leavesL
  go_enter Try.func105, Try.ntmps105
  go_wp2_with fail
  go_loopw [3, 5] (fun v i wr => LeavesI w S v i wr) (fun _ i _ => 16 - (intOf i).toNat)
  case atStart => exact ⟨0, 0, none, by omega, rfl, rfl, OBD.none_ _ _, Ext.refl _⟩
  case round =>
    obtain ⟨k, d, P, hk, rfl, rfl, own, hEr⟩ := hrel
    by_cases hlt : k < 16
    · have hki : (k : Int) < 16 := by omega
      go_wp2_with fail
      refine (public_any A n c S k wr (hr.ext hEr) hn).mono ?_
      rintro e w3 ⟨A3, c3, rfl, own3, hE3⟩
      obtain ⟨ad3, rfl, _⟩ := own3.rb.cells (by omega)
      obtain ⟨g3, rfl⟩ := own3.plain
      have hEw := hEr.trans hE3
      have hEa := Ext.new w3 (.cells #[.slice (some ⟨g3, 0, none⟩) 32 c3] 22)
      have hBa := Blk.new w3 22 #[.slice (some ⟨g3, 0, none⟩) 32 c3]
      have own4 := (own.ext hE3).ext hEa
      have hne : some g3 ≠ blk P := by
        intro e
        have h1 := own3.ge
        have h2 := own.lt e.symm
        omega
      go_wp2_with (refine appbd_law (base := w.heap.size) (Y := publicL S ((k : Nat) : Int)) rfl rfl rfl rfl (by rw [add_plain]; exact hBa.cell (i := 0) rfl) own4 ((own3.base hEr.size).ext hEa) hne (hEw.trans hEa).size (by omega) ?_; intro P5 d5 w5 own5 g5)
      go_roundw
      case rel =>
        refine ⟨k + 1, d5, P5, by omega, by go_num, rfl, ?_, (hEw.trans hEa).then_grown g5 (fun b hb => (own4.lt hb).1)⟩
        rw [range_snoc]
        exact own5
      case measure => simp [intOf]; omega
    · obtain rfl : k = 16 := by omega
      go_wp2_with fail
      go_ret
      exact ⟨P, d, rfl, own, hEr⟩
theorem pow_step {h : Nat} (hh : h < 4) : 16 / 2 ^ h ≤ 16 ∧ 16 / 2 ^ h % 2 = 0 ∧ 16 / 2 ^ h / 2 = 16 / 2 ^ (h + 1) ∧ 2 ≤ 16 / 2 ^ h := by
  obtain rfl | rfl | rfl | rfl : h = 0 ∨ h = 1 ∨ h = 2 ∨ h = 3 := by omega
  all_goals decide
end Go.Proofs.Ythggfbpdhkpkjaa

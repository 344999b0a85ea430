/-
  sign.above, sign.leaves, sign.Public and sign.Sign, walked. sign.Sign, walked.
-/
import Derived.Test.YthggfbpdhkpkjaaLawPuts11Q15
namespace Go.Proofs.Ythggfbpdhkpkjaa
set_option maxRecDepth 100000
open Go Go.RowKit
noncomputable def infZZ : TypeInfo := (Try.prog.info? 22).getD default
theorem infZZ_eq : Try.prog.info? 22 = some infZZ := by kernel_rfl
theorem infZZ_size : infZZ.size = 1 := by kernel_rfl
theorem OBD.len {w : World} {base n c : Nat} {A : Option Addr} {Ls : List (List UInt8)} (h : OBD w base A n c Ls) : Ls.length = n := by
  obtain ⟨vs, _, h2, _⟩ := h
  exact h2
theorem OBD.plain {w : World} {base n c : Nat} {A : Option Addr} {Ls : List (List UInt8)} (h : OBD w base A n c Ls) (hn : 0 < n) : ∃ g, A = some ⟨g, 0, none⟩ := by
  obtain ⟨ad, rfl, _⟩ := h.obc.rbb.cells hn
  obtain ⟨g, rfl⟩ := h.obc.plain
  exact ⟨g, rfl⟩
theorem OBD.cell {w : World} {base n c g : Nat} {Ls : List (List UInt8)} (h : OBD w base (some ⟨g, 0, none⟩) n c Ls) {j : Nat} (hj : j < n) :
    ∃ g' d', w.cell? ((⟨g, 0, none⟩ : Addr).add j) = some (.slice (some ⟨g', 0, none⟩) 32 d') ∧ OB w base (some ⟨g', 0, none⟩) 32 d' (lb Ls j) := by
  obtain ⟨vs, h1, h2, h3⟩ := h
  obtain ⟨g', d', h4, h5, _⟩ := h3 j hj
  exact ⟨g', d', World.ownsRow.cells h1 (g := g) (by rw [ownBlock_slice]; rfl) j _ h4, h5⟩
theorem OBD.grown {w w' : World} {base n c : Nat} {A : Option Addr} {Ls : List (List UInt8)} (h : OBD w base A n c Ls) {row : Option Nat} (e : w.grownBy w' row) (hr : ∀ k, row = some k → k < base) : OBD w' base A n c Ls := by
  have hA : Value.ownBlock (.slice A n c) = none ∨ Value.ownBlock (.slice A n c) ≠ row := by
    rw [ownBlock_slice]
    cases hb : blk A with
    | none => exact .inl rfl
    | some k =>
      refine .inr fun e => ?_
      have h1 := (h.lt hb).1
      have h2 := hr k e.symm
      omega
  obtain ⟨vs, h1, h2, h3⟩ := h
  refine ⟨vs, World.ownsRow.kept h1 e hA, h2, fun j hj => ?_⟩
  obtain ⟨g, d, h4, h5, h6⟩ := h3 j hj
  refine ⟨g, d, h4, h5.grown e (.inr fun e' => ?_), h6⟩
  have h7 := h5.ge
  have h8 := hr g e'.symm
  omega
def MP.one32 (b : Nat) (L : List UInt8) : MP Ext := ⟨fun u w => ∃ x g d, u = .slice (some ⟨x, 0, none⟩) 1 1 ∧ w.cell? ((⟨x, 0, none⟩ : Addr).add 0) = some (.slice (some ⟨g, 0, none⟩) 32 d) ∧ OB w b (some ⟨g, 0, none⟩) 32 d L, fun _ _ _ e ⟨x, g, d, h1, h2, h3⟩ => ⟨x, g, d, h1, e.cell h2, h3.ext e⟩⟩
def MP.one1 (v : Value) : MP Ext := ⟨fun u w => ∃ x, u = .slice (some ⟨x, 0, none⟩) 1 1 ∧ w.cell? ((⟨x, 0, none⟩ : Addr).add 0) = some v, fun _ _ _ e ⟨x, h1, h2⟩ => ⟨x, h1, e.cell h2⟩⟩
def MP.ob32 (b : Nat) (L : List UInt8) : MP Ext := ⟨fun u w => ∃ g d, u = .slice (some ⟨g, 0, none⟩) 32 d ∧ OB w b (some ⟨g, 0, none⟩) 32 d L, fun _ _ _ e ⟨g, d, h1, h2⟩ => ⟨g, d, h1, h2.ext e⟩⟩
theorem Runs.one1 {o : Oper} {ρ : Operand → Value} {w : World} {G : Value → World → Prop} {y0 : Operand} {B0 : Option Addr} {m0 d0 : Nat} (ho : o.op = .buildSlice 37 1 #[(0, y0)]) (e0 : ρ y0 = .slice B0 m0 d0)
    (h : ∀ w', Ext w w' → w'.cell? ((⟨w.heap.size, 0, none⟩ : Addr).add 0) = some (.slice B0 m0 d0) → G (.slice (some ⟨w.heap.size, 0, none⟩) 1 1) w') : Runs Try.prog o ρ w G := by
  refine Runs.of_run (r := .slice (some ⟨w.heap.size, 0, none⟩) 1 1) ?_ (h _ (Ext.new w _) (by rw [add_plain]; exact (Blk.new w 22 #[.slice B0 m0 d0]).cell (i := 0) rfl))
  unfold execOp
  simp only [ho, e0, List.map_toArray, List.map_cons, List.map_nil, Sem.run_bind, run_ss1, Result.andThen_ok, Sem.run_pure]
def AboveI (w : World) (n : Nat) (Ls : List (List UInt8)) (v i : Value) (wr : World) : Prop :=
  ∃ (k d : Nat) (P : Option Addr), 2 * k ≤ n ∧ i = .int .i64 ((2 * k : Nat) : Int) ∧ v = .slice P k d ∧ OBD wr w.heap.size P k d ((List.range k).map fun i => nodeV (lb Ls (2 * i)) (lb Ls (2 * i + 1))) ∧ Ext w wr
set_option maxHeartbeats 4000000 in
theorem above_own (A : Option Addr) (n c b : Nat) (Ls : List (List UInt8)) (w : World) (h : OBD w b A n c Ls) (hn : n ≤ 16) (hev : n % 2 = 0) :
    Calls Try.prog 106 #[.slice A n c] w fun e w' => ∃ P d, e = .returned (.slice P (n / 2) d) ∧ OBD w' w.heap.size P (n / 2) d (upL Ls) ∧ Ext w w' := by
  have hl := h.len
  have hup : upL Ls = (List.range (n / 2)).map fun i => nodeV (lb Ls (2 * i)) (lb Ls (2 * i + 1)) := by unfold upL; rw [hl]
  rw [hup]
  clear hup hl
  go_enter Try.func106, Try.ntmps106
  go_wp2_with fail
  go_loopw [3, 4] (fun v i wr => AboveI w n Ls v i wr) (fun _ i _ => n - (intOf i).toNat)
  case atStart => exact ⟨0, 0, none, by omega, rfl, rfl, OBD.none_ _ _, Ext.refl _⟩
  case round =>
    obtain ⟨k, d, P, hk, rfl, rfl, own, hEr⟩ := hrel
    by_cases hlt : 2 * k + 1 < n
    · have hki : ((2 * k : Nat) : Int) + 1 < (n : Int) := by omega
      obtain ⟨g, rfl⟩ := h.plain (by omega)
      obtain ⟨g1, d1, hc1, o1⟩ := (h.ext hEr).cell (j := 2 * k) (by omega)
      obtain ⟨g2, d2, hc2, o2⟩ := (h.ext hEr).cell (j := 2 * k + 1) (by omega)
      have r1 := o1.rb
      have r2 := o2.rb
      have hl1 := r1.len
      have hl2 := r2.len
      have Hl1 := Lib.hid hl1
      have Hl2 := Lib.hid hl2
      clear hl1 hl2 o1 o2
      obtain ⟨X, hX⟩ : ∃ X, X = lb Ls (2 * k) := ⟨_, rfl⟩
      obtain ⟨Y, hY⟩ : ∃ Y, Y = lb Ls (2 * k + 1) := ⟨_, rfl⟩
      rw [← hX] at r1 Hl1
      rw [← hY] at r2 Hl2
      have HX := Lib.hid hX
      have HY := Lib.hid hY
      clear hX hY
      go_upto_region 5 with (fail)
      refine par_ext (n := 13) (by kernel_rfl) [.is (.slice (P) (k) (d)), .is (.slice (some ⟨g, 0, none⟩) (n) (c)), .is (.int .i64 (((2 * k : Nat) : Int))), .is (.pointer (some ((⟨g, 0, none⟩ : Addr).add ((2 * k))))), .is (.slice (some ⟨g1, 0, none⟩) (32) (d1)), .is (.slice (some ⟨g, 0, none⟩) (n) (c)), .is (.int .i64 (((2 * k : Nat) : Int))), .is (.int .i64 (((2 * k : Nat) : Int) + (1 : Int))), .is (.pointer (some ((⟨g, 0, none⟩ : Addr).add (((2 * k) + 1))))), .is (.slice (some ⟨g2, 0, none⟩) (32) (d2)), .rbb ([X, Y]), .ob32 (wr.heap.size) (nodeV X Y), .one32 (wr.heap.size) (nodeV X Y)] rfl ⟨?_, ?_, ?_, ?_, ?_, ?_, ?_, ?_, ?_, ?_, ?_, ?_, ?_, trivial⟩ ?_
      · refine stepE rfl fun sdn sa sw sE sd sk => ?_
        have h3 : sa.eval (.tmp 3) = .slice (P) (k) (d) := sk.old 3 rfl
        exact Runs.move rfl h3 ⟨Ext.refl _, rfl⟩
      · refine stepE rfl fun sdn sa sw sE sd sk => ?_
        have h0 : sa.eval (.tmp 0) = .slice (some ⟨g, 0, none⟩) (n) (c) := sk.old 0 rfl
        exact Runs.move rfl h0 ⟨Ext.refl _, rfl⟩
      · refine stepE rfl fun sdn sa sw sE sd sk => ?_
        have h4 : sa.eval (.tmp 4) = .int .i64 (((2 * k : Nat) : Int)) := sk.old 4 rfl
        exact Runs.move rfl h4 ⟨Ext.refl _, rfl⟩
      · refine stepE rfl fun sdn sa sw sE sd sk => ?_
        have h13 : sa.eval (.tmp 13) = .slice (some ⟨g, 0, none⟩) (n) (c) := sk.fact 1 13 rfl (sd 1 rfl)
        have h14 : sa.eval (.tmp 14) = .int .i64 (((2 * k : Nat) : Int)) := sk.fact 2 14 rfl (sd 2 rfl)
        exact Runs.idx rfl h13 h14 (run_idx_sl1 Try.underlying37 infZZ_eq infZZ_size ((2 * k)) (by omega) (by omega)) ⟨Ext.refl _, rfl⟩
      · refine stepE rfl fun sdn sa sw sE sd sk => ?_
        have h15 : sa.eval (.tmp 15) = .pointer (some ((⟨g, 0, none⟩ : Addr).add ((2 * k)))) := sk.fact 3 15 rfl (sd 3 rfl)
        exact Runs.load rfl h15 (run_load1 Try.underlying22 rfl (sE.cell hc1)) ⟨Ext.refl _, rfl⟩
      · refine stepE rfl fun sdn sa sw sE sd sk => ?_
        have h0 : sa.eval (.tmp 0) = .slice (some ⟨g, 0, none⟩) (n) (c) := sk.old 0 rfl
        exact Runs.move rfl h0 ⟨Ext.refl _, rfl⟩
      · refine stepE rfl fun sdn sa sw sE sd sk => ?_
        have h4 : sa.eval (.tmp 4) = .int .i64 (((2 * k : Nat) : Int)) := sk.old 4 rfl
        exact Runs.move rfl h4 ⟨Ext.refl _, rfl⟩
      · refine stepE rfl fun sdn sa sw sE sd sk => ?_
        have h18 : sa.eval (.tmp 18) = .int .i64 (((2 * k : Nat) : Int)) := sk.fact 6 18 rfl (sd 6 rfl)
        exact Runs.bin rfl h18 rfl (eqGuard_bin rfl) (bin_add64 _ _ _ (by omega) (by omega)) ⟨Ext.refl _, rfl⟩
      · refine stepE rfl fun sdn sa sw sE sd sk => ?_
        have h17 : sa.eval (.tmp 17) = .slice (some ⟨g, 0, none⟩) (n) (c) := sk.fact 5 17 rfl (sd 5 rfl)
        have h19 : sa.eval (.tmp 19) = .int .i64 (((2 * k : Nat) : Int) + (1 : Int)) := sk.fact 7 19 rfl (sd 7 rfl)
        exact Runs.idx rfl h17 h19 (run_idx_sl1 Try.underlying37 infZZ_eq infZZ_size (((2 * k) + 1)) (by omega) (by omega)) ⟨Ext.refl _, rfl⟩
      · refine stepE rfl fun sdn sa sw sE sd sk => ?_
        have h20 : sa.eval (.tmp 20) = .pointer (some ((⟨g, 0, none⟩ : Addr).add (((2 * k) + 1)))) := sk.fact 8 20 rfl (sd 8 rfl)
        exact Runs.load rfl h20 (run_load1 Try.underlying22 rfl (sE.cell hc2)) ⟨Ext.refl _, rfl⟩
      · refine stepE rfl fun sdn sa sw sE sd sk => ?_
        have h16 : sa.eval (.tmp 16) = .slice (some ⟨g1, 0, none⟩) (32) (d1) := sk.fact 4 16 rfl (sd 4 rfl)
        have h21 : sa.eval (.tmp 21) = .slice (some ⟨g2, 0, none⟩) (32) (d2) := sk.fact 9 21 rfl (sd 9 rfl)
        exact Runs.ss2 rfl h16 h21 (r1.ext sE) (r2.ext sE) (fun w1 e1 b1 => ⟨e1, _, _, _, rfl, b1⟩)
      · refine stepE rfl fun sdn sa sw sE sd sk => ?_
        obtain ⟨A22, n22, c22, h22, r22⟩ := sk.fact 10 22 rfl (sd 10 rfl)
        refine Runs.call (f := 103) (vs := [.int .u8 (u8i (14 : UInt8)), .slice (A22) (n22) (c22)]) rfl rfl rfl (by simp only [List.map_toArray, List.map_cons, List.map_nil, h22] <;> rfl) (ent103 _ _) ((htagged_any (14 : UInt8) _ _ _ _ sw r22 (by simp only [List.flatten_cons, List.flatten_nil, List.length_append, List.length_nil, Hl1.out, Hl2.out]; omega)).mono ?_); rintro e w' ⟨A', c', rfl, own, hx⟩; obtain ⟨ad', rfl, _⟩ := own.rb.cells (by omega); obtain ⟨g', rfl⟩ := own.plain; exact ⟨_, rfl, hx, g', c', rfl, (show OB w' sw.heap.size _ 32 c' (nodeV X Y) by simpa [nodeV] using own).base sE.size⟩
      · refine stepE rfl fun sdn sa sw sE sd sk => ?_
        obtain ⟨g23, d23, h23, o23⟩ := sk.fact 11 23 rfl (sd 11 rfl)
        exact Runs.one1 rfl h23 (fun w1 e1 b1 => ⟨e1, _, _, _, rfl, b1, o23.ext e1⟩)
      intro vals W1 hE hv
      have e0 : vals 0 = .slice (P) (k) (d) := hv 0 (by omega) 12 rfl
      have e1 : vals 1 = .slice (some ⟨g, 0, none⟩) (n) (c) := hv 1 (by omega) 13 rfl
      have e2 : vals 2 = .int .i64 (((2 * k : Nat) : Int)) := hv 2 (by omega) 14 rfl
      have e3 : vals 3 = .pointer (some ((⟨g, 0, none⟩ : Addr).add ((2 * k)))) := hv 3 (by omega) 15 rfl
      have e4 : vals 4 = .slice (some ⟨g1, 0, none⟩) (32) (d1) := hv 4 (by omega) 16 rfl
      have e5 : vals 5 = .slice (some ⟨g, 0, none⟩) (n) (c) := hv 5 (by omega) 17 rfl
      have e6 : vals 6 = .int .i64 (((2 * k : Nat) : Int)) := hv 6 (by omega) 18 rfl
      have e7 : vals 7 = .int .i64 (((2 * k : Nat) : Int) + (1 : Int)) := hv 7 (by omega) 19 rfl
      have e8 : vals 8 = .pointer (some ((⟨g, 0, none⟩ : Addr).add (((2 * k) + 1)))) := hv 8 (by omega) 20 rfl
      have e9 : vals 9 = .slice (some ⟨g2, 0, none⟩) (32) (d2) := hv 9 (by omega) 21 rfl
      obtain ⟨A22, n22, c22, e10, r22⟩ := hv 10 (by omega) 22 rfl
      obtain ⟨g23, d23, e11, o23⟩ := hv 11 (by omega) 23 rfl
      obtain ⟨x24, g24, d24, e12, hc24, o24⟩ := hv 12 (by omega) 24 rfl
      simp only [putAll, Act.put, List.take_succ_cons, List.take_zero, List.drop_succ_cons, List.drop_zero, List.drop_nil, List.take_nil, Nat.reduceAdd, List.setIfInBounds_toArray, List.set_cons_succ, List.set_cons_zero, e0, e1, e2, e3, e4, e5, e6, e7, e8, e9, e10, e11, e12]
      clear hv e0 e1 e2 e3 e4 e5 e6 e7 e8 e9 e10 e11 e12
      have ownW := own.ext hE
      have hEw := hEr.trans hE
      have hne : some g24 ≠ blk P := by
        intro e
        have h1 := o24.ge
        have h2 := own.lt e.symm
        omega
      have oV := o24.base hEr.size
      go_wp2_with (refine appbd_law (base := w.heap.size) (Y := nodeV X Y) rfl rfl rfl rfl hc24 ownW oV hne hEw.size (by omega) ?_; intro P5 d5 w5 own5 g5)
      go_roundw
      case rel =>
        refine ⟨k + 1, d5, P5, by omega, by go_num, rfl, ?_, hEw.then_grown g5 (fun b hb => (ownW.lt hb).1)⟩
        rw [range_snoc, ← HX.out, ← HY.out]
        exact own5
      case measure => simp [intOf]; omega
    · obtain rfl : k = n / 2 := by omega
      have hki : ¬ (((2 * (n / 2) : Nat) : Int) + 1 < (n : Int)) := by omega
      go_wp2_with fail
      go_ret
      exact ⟨P, d, rfl, own, hEr⟩
def LeavesI (w : World) (S : List UInt8) (v i : Value) (wr : World) : Prop :=
  ∃ (k d : Nat) (P : Option Addr), k ≤ 16 ∧ i = .int .i64 k ∧ v = .slice P k d ∧ OBD wr w.heap.size P k d ((List.range k).map fun k => publicL S ((k : Nat) : Int)) ∧ Ext w wr
set_option maxHeartbeats 4000000 in
theorem leaves_own (A : Option Addr) (n c : Nat) (S : List UInt8) (w : World) (hr : RB w A n c S) (hn : n ≤ 140737488355000) :
    Calls Try.prog 105 #[.slice A n c] w fun e w' => ∃ P d, e = .returned (.slice P 16 d) ∧ OBD w' w.heap.size P 16 d (leavesL S) ∧ Ext w w' := by
  unfold leavesL
  go_enter Try.func105, Try.ntmps105
  go_wp2_with fail
  go_loopw [3, 5] (fun v i wr => LeavesI w S v i wr) (fun _ i _ => 16 - (intOf i).toNat)
  case atStart => exact ⟨0, 0, none, by omega, rfl, rfl, OBD.none_ _ _, Ext.refl _⟩
  case round =>
    obtain ⟨k, d, P, hk, rfl, rfl, own, hEr⟩ := hrel
    by_cases hlt : k < 16
    · have hki : (k : Int) < 16 := by omega
      go_wp2_with fail
      refine (public_any A n c S k wr (hr.ext hEr) hn).mono ?_
      rintro e w3 ⟨A3, c3, rfl, own3, hE3⟩
      obtain ⟨ad3, rfl, _⟩ := own3.rb.cells (by omega)
      obtain ⟨g3, rfl⟩ := own3.plain
      have hEw := hEr.trans hE3
      have hEa := Ext.new w3 (.cells #[.slice (some ⟨g3, 0, none⟩) 32 c3] 22)
      have hBa := Blk.new w3 22 #[.slice (some ⟨g3, 0, none⟩) 32 c3]
      have own4 := (own.ext hE3).ext hEa
      have hne : some g3 ≠ blk P := by
        intro e
        have h1 := own3.ge
        have h2 := own.lt e.symm
        omega
      go_wp2_with (refine appbd_law (base := w.heap.size) (Y := publicL S ((k : Nat) : Int)) rfl rfl rfl rfl (by rw [add_plain]; exact hBa.cell (i := 0) rfl) own4 ((own3.base hEr.size).ext hEa) hne (hEw.trans hEa).size (by omega) ?_; intro P5 d5 w5 own5 g5)
      go_roundw
      case rel =>
        refine ⟨k + 1, d5, P5, by omega, by go_num, rfl, ?_, (hEw.trans hEa).then_grown g5 (fun b hb => (own4.lt hb).1)⟩
        rw [range_snoc]
        exact own5
      case measure => simp [intOf]; omega
    · obtain rfl : k = 16 := by omega
      go_wp2_with fail
      go_ret
      exact ⟨P, d, rfl, own, hEr⟩
theorem pow_step {h : Nat} (hh : h < 4) : 16 / 2 ^ h ≤ 16 ∧ 16 / 2 ^ h % 2 = 0 ∧ 16 / 2 ^ h / 2 = 16 / 2 ^ (h + 1) ∧ 2 ≤ 16 / 2 ^ h := by
  obtain rfl | rfl | rfl | rfl : h = 0 ∨ h = 1 ∨ h = 2 ∨ h = 3 := by omega
  all_goals decide
end Go.Proofs.Ythggfbpdhkpkjaa
namespace Go.Proofs.Ythggfbpdhkpkjaa
set_option maxRecDepth 100000
open Go Go.RowKit
theorem grown_set (w : World) (a : Addr) (u : Value) : w.grownBy (w.setCell a u) (some a.block) := ⟨rfl, rfl, rfl, by simp [World.setCell], fun i _ hne => Below.heap_setCell w a u i fun e => hne (by rw [e])⟩
theorem bin_xor1 {P : Program} {w : World} (t : TypeId) (q : Nat) (hq : q < 16) : (binOp .xor t (.int .i64 (q : Int)) (.int .i64 1)).run P w = .ok (.int .i64 ((q + 1 - 2 * (q % 2) : Nat) : Int)) w := by
  have h : q = 0 ∨ q = 1 ∨ q = 2 ∨ q = 3 ∨ q = 4 ∨ q = 5 ∨ q = 6 ∨ q = 7 ∨ q = 8 ∨ q = 9 ∨ q = 10 ∨ q = 11 ∨ q = 12 ∨ q = 13 ∨ q = 14 ∨ q = 15 := by omega
  rcases h with rfl | rfl | rfl | rfl | rfl | rfl | rfl | rfl | rfl | rfl | rfl | rfl | rfl | rfl | rfl | rfl
  all_goals rfl
theorem results_sig {P : Program} {fn : Func} {p u : Tmp} {ty : TypeId} (h : fn.results = #[.cell p ty, .tmp u]) (tmps : Array Value) (w : World) (g : Nat) (t : TypeId) (cs : Array Value) (d : TypeDesc)
    (hp : tmps.getD p undef = .pointer (some ⟨g, 0, none⟩)) (hg : Blk w g t cs) (hu : P.underlying ty = some d) (hd : (match d with | .struct _ | .array _ _ => true | _ => false) = true) (hi : (P.info? ty).map (·.size) = some cs.size) :
    (results fn tmps).run P w = .ok (.tuple #[.agg cs, tmps.getD u undef]) w := by
  have hp' : tmps[p]?.getD undef = .pointer (some ⟨g, 0, none⟩) := by simpa using hp
  simp [results, h, hp', asAddr, run_loadVar_row w g t ty cs (0, 0) d hg hu hd hi]
def sliceLen : Value → Nat
  | .slice _ n _ => n
  | _ => 0
def SignI (w1 : World) (S : List UInt8) (k dp : Nat) (Pp : Option Addr) (v i : Value) (wr : World) : Prop :=
  ∃ (h d dq b2 : Nat) (P Q : Option Addr), h ≤ 4 ∧ i = .int .i64 ((k / 2 ^ h : Nat) : Int) ∧ v = .slice P (16 / 2 ^ h) d ∧ OBD wr b2 P (16 / 2 ^ h) d (lev S h) ∧ (∀ q, blk Q = some q → q < b2) ∧
    w1.heap.size + 1 ≤ b2 ∧ OBD wr (w1.heap.size + 1) Q h dq ((List.range h).map (pathB S k)) ∧ Blk wr w1.heap.size 39 #[.int .i64 (k : Int), .slice Pp 64 dp, .slice Q h dq] ∧ Ext w1 wr
theorem OBC.base {w : World} {base base' n c : Nat} {A : Option Addr} {Ls : List (List UInt8)} (h : OBC w base A n c Ls) (hb : base' ≤ base) : OBC w base' A n c Ls := by
  obtain ⟨vs, h1, h2⟩ := h
  exact ⟨vs, ownsRow_base h1 hb, h2⟩
set_option maxHeartbeats 4000000 in
theorem ssign_own (A B : Option Addr) (c m e' k : Nat) (S M : List UInt8) (w : World) (hr : RB w A 32 c S) (hm : RB w B m e' M) (hmn : m ≤ 140737488355000) (hk : k < 16) :
    Calls Try.prog 83 #[.slice A 32 c, .int .i64 (k : Int), .slice B m e'] w fun e w' => ∃ P d Q d', e = .returned (.tuple #[.agg #[.int .i64 (k : Int), .slice P 64 d, .slice Q 4 d'], .int .i64 0]) ∧ OBC w' w.heap.size P 64 d ((List.range 64).map (partS (digestW M) S k)) ∧ OBC w' w.heap.size Q 4 d' (pathL S k) ∧ Ext w w' := by
  have hki : (k : Int) < 16 := by omega
  have hk0 : ¬ ((k : Int) < 0) := by omega
  go_enter Try.func83, Try.ntmps83
  go_wp2_with fail
  have hE0 := Ext.new w (.cells #[.int .i64 0, .slice none 0 0, .slice none 0 0] 39)
  have hB6 := Blk.new w 39 #[.int .i64 0, .slice none 0 0, .slice none 0 0]
  refine (sign_own A B 32 c m e' S M k _ (hr.ext hE0) (by omega) (hm.ext hE0) hmn).mono ?_
  rintro e w1 ⟨P1, d1, rfl, own1, hE1⟩
  have hB6 := hB6.ext hE1
  have hE01 := hE0.trans hE1
  have rS1 := hr.ext hE01
  have hlt6 := hB6.lt
  have hs1 : (w.alloc (.cells #[.int .i64 0, .slice none 0 0, .slice none 0 0] 39)).heap.size = w.heap.size + 1 := World.size_alloc _ _
  rw [hs1] at own1
  clear hE1 hr hm hs1
  have hE2 := Ext.new w1 (.cells #[.int .i64 (k : Int), .slice P1 64 d1, .slice none 0 0] 39)
  have hB8 := Blk.new w1 39 #[.int .i64 (k : Int), .slice P1 64 d1, .slice none 0 0]
  go_wp2_with fail
  refine (leaves_own A 32 c S _ (rS1.ext hE2) (by omega)).mono ?_
  rintro e w3 ⟨P3, d3, rfl, own3, hE3⟩
  have hB8 := hB8.ext hE3
  have hE13 := hE2.trans hE3
  have hs2 : (w1.alloc (.cells #[.int .i64 (k : Int), .slice P1 64 d1, .slice none 0 0] 39)).heap.size = w1.heap.size + 1 := World.size_alloc _ _
  rw [hs2] at own3
  go_wp2_with fail
  go_loopw [9, 10] (fun v i wr => SignI w1 S k d1 P1 v i wr) (fun v _ _ => sliceLen v)
  case atStart => exact ⟨0, d3, 0, w1.heap.size + 1, P3, none, by omega, by simp, rfl, own3, (fun q hq => by cases hq), Nat.le_refl _, OBD.none_ _ _, hB8, hE13⟩
  case round =>
    clear own3 hB8 hE13 hE2 hE3 hs2
    obtain ⟨h, d, dq, b2, P, Q, hh, rfl, rfl, own, hQb, hb2, ownQ, hB8, hEr⟩ := hrel
    have hlt8 := hB8.lt
    by_cases hlt : h < 4
    · obtain ⟨p1, p2, p3, p4⟩ := pow_step hlt
      obtain ⟨s1, s2, s3⟩ := step_lt hk hlt
      have hq16 : k / 2 ^ h < 16 := Nat.lt_of_le_of_lt (Nat.div_le_self _ _) hk
      have hpB : pathB S k h = lb (lev S h) (k / 2 ^ h + 1 - 2 * (k / 2 ^ h % 2)) := rfl
      have hpre : ∀ (w' : World) (P' : Option Addr) (b' d' : Nat), OBD w' b' P' (16 / 2 ^ h / 2) d' (upL (lev S h)) → OBD w' b' P' (16 / 2 ^ (h + 1)) d' (lev S (h + 1)) := by
        intro w' P' b' d' h'
        rw [p3] at h'
        exact h'
      have hsn := range_snoc (pathB S k) h
      have Hsn := Lib.hid hsn
      have Hpre := Lib.hid hpre
      have Hs3 := Lib.hid s3
      have HN := Lib.hid p3
      have hab := fun (w' : World) (own' : OBD w' b2 P (16 / 2 ^ h) d (lev S h)) => above_own P _ d b2 _ w' own' p1 p2
      have Hab := Lib.hid hab
      have h5 : 1 < 16 / 2 ^ h := by omega
      clear hsn hpre hab p1 p2 p3 s2 s3 p4
      rw [hpB] at Hsn
      clear hpB
      generalize k / 2 ^ h = q at *
      generalize lev S h = LV at *
      generalize 16 / 2 ^ h = N at *
      have hN : (1 : Int) < (N : Int) := by omega
      obtain ⟨g, rfl⟩ := own.plain (by omega)
      obtain ⟨g1, d9, hc1, o1⟩ := own.cell (j := q + 1 - 2 * (q % 2)) s1
      have r1 := o1.rb
      obtain ⟨Y, hY⟩ : ∃ Y, Y = lb LV (q + 1 - 2 * (q % 2)) := ⟨_, rfl⟩
      rw [← hY] at r1 o1 Hsn
      clear hY
      have y1 : wr.cell? ⟨w1.heap.size, 2, none⟩ = some (.slice Q h dq) := hB8.cell (i := 2) rfl
      go_upto_region 10 with (fail)
      refine par_ext (n := 8) (by kernel_rfl) [.is (.pointer (some ⟨w1.heap.size, 2, none⟩)), .is (.slice (Q) (h) (dq)), .is (.slice (some ⟨g, 0, none⟩) (N) (d)), .is (.int .i64 (((q : Nat) : Int))), .is (.int .i64 (((q + 1 - 2 * (q % 2) : Nat) : Int))), .is (.pointer (some ((⟨g, 0, none⟩ : Addr).add ((q + 1 - 2 * (q % 2)))))), .is (.slice (some ⟨g1, 0, none⟩) (32) (d9)), .one1 (.slice (some ⟨g1, 0, none⟩) (32) (d9))] rfl ⟨?_, ?_, ?_, ?_, ?_, ?_, ?_, ?_, trivial⟩ ?_
      · refine stepE rfl fun sdn sa sw sE sd sk => ?_
        have h8 : sa.eval (.tmp 8) = .pointer (some ⟨w1.heap.size, 0, none⟩) := sk.old 8 rfl
        refine Runs.of_run (r := .pointer (some ⟨w1.heap.size, 2, none⟩)) (w' := sw) ?_ ⟨Ext.refl _, rfl⟩
        unfold execOp
        simp only [h8]
        go_simp
      · refine stepE rfl fun sdn sa sw sE sd sk => ?_
        have h38 : sa.eval (.tmp 38) = .pointer (some ⟨w1.heap.size, 2, none⟩) := sk.fact 0 38 rfl (sd 0 rfl)
        exact Runs.load rfl h38 (run_load1 Try.underlying37 rfl (sE.cell y1)) ⟨Ext.refl _, rfl⟩
      · refine stepE rfl fun sdn sa sw sE sd sk => ?_
        have h9 : sa.eval (.tmp 9) = .slice (some ⟨g, 0, none⟩) (N) (d) := sk.old 9 rfl
        exact Runs.move rfl h9 ⟨Ext.refl _, rfl⟩
      · refine stepE rfl fun sdn sa sw sE sd sk => ?_
        have h10 : sa.eval (.tmp 10) = .int .i64 (((q : Nat) : Int)) := sk.old 10 rfl
        exact Runs.move rfl h10 ⟨Ext.refl _, rfl⟩
      · refine stepE rfl fun sdn sa sw sE sd sk => ?_
        have h41 : sa.eval (.tmp 41) = .int .i64 (((q : Nat) : Int)) := sk.fact 3 41 rfl (sd 3 rfl)
        exact Runs.bin rfl h41 rfl (eqGuard_bin rfl) (bin_xor1 _ q hq16) ⟨Ext.refl _, rfl⟩
      · refine stepE rfl fun sdn sa sw sE sd sk => ?_
        have h40 : sa.eval (.tmp 40) = .slice (some ⟨g, 0, none⟩) (N) (d) := sk.fact 2 40 rfl (sd 2 rfl)
        have h42 : sa.eval (.tmp 42) = .int .i64 (((q + 1 - 2 * (q % 2) : Nat) : Int)) := sk.fact 4 42 rfl (sd 4 rfl)
        exact Runs.idx rfl h40 h42 (run_idx_sl1 Try.underlying37 infZZ_eq infZZ_size ((q + 1 - 2 * (q % 2))) (by omega) (by omega)) ⟨Ext.refl _, rfl⟩
      · refine stepE rfl fun sdn sa sw sE sd sk => ?_
        have h43 : sa.eval (.tmp 43) = .pointer (some ((⟨g, 0, none⟩ : Addr).add ((q + 1 - 2 * (q % 2))))) := sk.fact 5 43 rfl (sd 5 rfl)
        exact Runs.load rfl h43 (run_load1 Try.underlying22 rfl (sE.cell hc1)) ⟨Ext.refl _, rfl⟩
      · refine stepE rfl fun sdn sa sw sE sd sk => ?_
        have h44 : sa.eval (.tmp 44) = .slice (some ⟨g1, 0, none⟩) (32) (d9) := sk.fact 6 44 rfl (sd 6 rfl)
        exact Runs.one1 rfl h44 (fun w1 e1 b1 => ⟨e1, _, rfl, b1⟩)
      intro vals W1 hE hv
      have e0 : vals 0 = .pointer (some ⟨w1.heap.size, 2, none⟩) := hv 0 (by omega) 38 rfl
      have e1 : vals 1 = .slice (Q) (h) (dq) := hv 1 (by omega) 39 rfl
      have e2 : vals 2 = .slice (some ⟨g, 0, none⟩) (N) (d) := hv 2 (by omega) 40 rfl
      have e3 : vals 3 = .int .i64 (((q : Nat) : Int)) := hv 3 (by omega) 41 rfl
      have e4 : vals 4 = .int .i64 (((q + 1 - 2 * (q % 2) : Nat) : Int)) := hv 4 (by omega) 42 rfl
      have e5 : vals 5 = .pointer (some ((⟨g, 0, none⟩ : Addr).add ((q + 1 - 2 * (q % 2))))) := hv 5 (by omega) 43 rfl
      have e6 : vals 6 = .slice (some ⟨g1, 0, none⟩) (32) (d9) := hv 6 (by omega) 44 rfl
      obtain ⟨x45, e7, hc45⟩ := hv 7 (by omega) 45 rfl
      simp only [putAll, Act.put, List.take_succ_cons, List.take_zero, List.drop_succ_cons, List.drop_zero, List.drop_nil, List.take_nil, Nat.reduceAdd, List.setIfInBounds_toArray, List.set_cons_succ, List.set_cons_zero, e0, e1, e2, e3, e4, e5, e6, e7]
      clear hv e0 e1 e2 e3 e4 e5 e6 e7
      have ownQ1 := ownQ.ext hE
      have hB81 := hB8.ext hE
      have own1 := own.ext hE
      have hEw := hEr.trans hE
      have hne : some g1 ≠ blk Q := by
        intro e
        have h1 := o1.ge
        have h2 := hQb _ e.symm
        omega
      have hsz := hE.size
      have hne8 : some w1.heap.size ≠ blk Q := by
        intro e
        have h1 := (ownQ.lt e.symm).1
        omega
      go_wp2_with (refine appbd_law (base := w1.heap.size + 1) (Y := Y) rfl rfl rfl rfl hc45 ownQ1 ((o1.ext hE).base hb2) hne (by omega) (by omega) ?_; intro Q5 d5 w5 ownQ5 g5; have hB85 := hB81.grown g5 hne8; have y5 := hB85.cell (i := 2) (v := .slice Q h dq) rfl; have y6 := hB85.frozen 2)
      have own5 := own1.grown g5 hQb
      have hE5 := hEw.then_grown g5 (fun b hb => by have := (ownQ1.lt hb).1; omega)
      have own6 := own5.grown (grown_set w5 ⟨w1.heap.size, 2, none⟩ (.slice Q5 (h + 1) d5)) (fun b hb => by cases hb; exact hb2)
      have ownQ6 := ownQ5.grown (grown_set w5 ⟨w1.heap.size, 2, none⟩ (.slice Q5 (h + 1) d5)) (fun b hb => by cases hb; exact Nat.lt_succ_self _)
      have hB86 := hB85.set 2 (.slice Q5 (h + 1) d5)
      have hE6 := hE5.set (p := ⟨w1.heap.size, 2, none⟩) (Nat.le_refl _) (.slice Q5 (h + 1) d5)
      clear hB81 own1 hEw ownQ1 own5 hE5 ownQ5 g5 hB85
      go_wp2_with fail
      refine (Hab.out _ own6).mono ?_
      rintro e w7 ⟨P7, d7, rfl, own7, hE7⟩
      have hq7 := fun b (hb : blk Q5 = some b) => (ownQ6.lt hb).2
      have hl6 := hB86.lt
      go_wp2_with fail
      go_roundw
      case rel =>
        refine ⟨h + 1, d7, d5, _, P7, Q5, by omega, ?_, ?_, Hpre.out _ _ _ _ own7, hq7, ?_, ?_, hB86.ext hE7, hE6.trans hE7⟩
        · rw [Hs3.out]; go_num
        · rw [HN.out]
        · omega
        · rw [Hsn.out]; exact ownQ6.ext hE7
      case measure => simp [sliceLen]; omega
    · obtain rfl : h = 4 := by omega
      have z0 : wr.cell? ⟨w1.heap.size, 0, none⟩ = some (.int .i64 (k : Int)) := hB8.cell (i := 0) rfl
      have z1 : wr.cell? ⟨w1.heap.size, 1, none⟩ = some (.slice P1 64 d1) := hB8.cell (i := 1) rfl
      have z2 : wr.cell? ⟨w1.heap.size, 2, none⟩ = some (.slice Q 4 dq) := hB8.cell (i := 2) rfl
      have hB6r := hB6.ext hEr
      have f0 := hB6r.frozen 0
      have f1 := hB6r.frozen 1
      have f2 := hB6r.frozen 2
      have x0 := hB6r.cell (i := 0) rfl
      have x1 := hB6r.cell (i := 1) rfl
      have x2 := hB6r.cell (i := 2) rfl
      have e4 : (Value.slice P (16 / 2 ^ 4) d) = .slice P 1 d := rfl
      rw [e4]
      clear e4
      go_wp2_with fail
      have g1 := fun (w' : World) (u : Value) (i : Nat) => grown_set w' ⟨w.heap.size, i, none⟩ u
      have oP := own1.ext hEr
      have oP3 := ((oP.grown (g1 _ (.int .i64 (k : Int)) 0) (fun b hb => by cases hb; exact Nat.lt_succ_self _)).grown (g1 _ (.slice P1 64 d1) 1) (fun b hb => by cases hb; exact Nat.lt_succ_self _)).grown (g1 _ (.slice Q 4 dq) 2) (fun b hb => by cases hb; exact Nat.lt_succ_self _)
      have hq' : ∀ b, (some w.heap.size : Option Nat) = some b → b < w1.heap.size + 1 := fun b hb => by cases hb; omega
      have oQ3 := ((ownQ.grown (g1 _ (.int .i64 (k : Int)) 0) hq').grown (g1 _ (.slice P1 64 d1) 1) hq').grown (g1 _ (.slice Q 4 dq) 2) hq'
      have hEf := (((hE01.trans hEr).set (p := ⟨w.heap.size, 0, none⟩) (Nat.le_refl _) (.int .i64 (k : Int))).set (p := ⟨w.heap.size, 1, none⟩) (Nat.le_refl _) (.slice P1 64 d1)).set (p := ⟨w.heap.size, 2, none⟩) (Nat.le_refl _) (.slice Q 4 dq)
      have hBf := ((hB6r.set 0 (.int .i64 (k : Int))).set 1 (.slice P1 64 d1)).set 2 (.slice Q 4 dq)
      clear oP ownQ hEr hB8 hB6 hB6r z0 z1 z2 x0 x1 x2 f0 f1 f2 own
      refine bodyPost_ret (results_sig rfl _ _ w.heap.size _ _ _ rfl hBf Try.underlying39 rfl rfl) rfl ?_
      exact ⟨P1, d1, Q, dq, rfl, oP3.obc.base (Nat.le_succ _), oQ3.obc.base (by omega), hEf⟩
end Go.Proofs.Ythggfbpdhkpkjaa

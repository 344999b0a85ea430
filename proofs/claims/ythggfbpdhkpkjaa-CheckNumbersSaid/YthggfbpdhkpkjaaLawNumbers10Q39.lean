/-
  What is written as a signed checkpoint is read as that one. Plain theorems. law10.CheckBodies, walked. law10.CheckBack, walked. law10.CheckNumbers, walked.
-/
import Derived.Test.YthggfbpdhkpkjaaLawNumbers10Q38
import Derived.Test.YthggfbpdhkpkjaaLawNumbers10Q12
import Derived.Test.YthggfbpdhkpkjaaLawNumbers10Q35
namespace Go.Proofs.Ythggfbpdhkpkjaa
set_option maxRecDepth 100000
open Go Go.RowKit
theorem putOK_parts {x : Int} {R : List UInt8} {k : Int} {Ps Qs : List (List UInt8)} (h : putOK x R k Ps Qs = true) : rightC x R = true ∧ rightB k Ps Qs = true := by
  unfold putOK at h
  simpa using h
theorem putL_len {x : Int} {R : List UInt8} {k : Int} {Ps Qs : List (List UInt8)} (h : putOK x R k Ps Qs = true) : (putL x R k Ps Qs).length = 2216 := by
  obtain ⟨h1, h2⟩ := putOK_parts h
  rw [putL_yes h]
  have h3 := encS_len h2
  have h4 := (rightC_true h1).2.2
  have h5 : (bytesOf (keyW x)).length = 4 := rfl
  simp only [List.length_append, h3, h4, h5]
theorem rightB_sig (S M : List UInt8) (k : Nat) (hk : k < 16) : rightB (k : Int) (sigP S M k) (pathL S k) = true := by
  have h := verB_own S M k hk
  unfold verB at h
  simp only [Bool.and_eq_true] at h
  exact h.1
theorem putOK_own (S M R : List UInt8) (x : Int) (k : Nat) (hk : k < 16) (hc : rightC x R = true) : putOK x R (k : Int) (sigP S M k) (pathL S k) = true := by
  unfold putOK
  rw [hc, rightB_sig S M k hk]
  rfl
end Go.Proofs.Ythggfbpdhkpkjaa
namespace Go.Proofs.Ythggfbpdhkpkjaa
set_option maxRecDepth 100000
open Go Go.RowKit
theorem rightC_of {x : Int} {R : List UInt8} (h0 : 0 ≤ x) (h1 : x ≤ 256) (h2 : R.length = 32) : rightC x R = true := by
  unfold rightC
  simp [h0, h1, h2]
end Go.Proofs.Ythggfbpdhkpkjaa
namespace Go.Proofs.Ythggfbpdhkpkjaa
set_option maxRecDepth 100000
open Go Go.RowKit
theorem app_wp {o : Oper} {a : Act} {w w' : World} {K : Act → World → Prop} {Q : Exit → Act → World → Prop} {s x : Operand} {u v r : Value} (ho : o.op = .call { callee := .builtin .append, args := #[s, x], argTypes := #[22, 22] }) (hs : a.eval s = u) (hx : a.eval x = v)
    (hrun : (Builtin.append_ #[22, 22] o.type #[u, v]).run Try.prog w = .ok r w') (h : K (a.put o.dst r) w') : o.wp Try.prog a w K Q := by
  unfold Oper.wp execOp
  simp only [ho, resolve, invoke, builtin, Sem.run_bind, Sem.run_pure, Result.andThen_ok, List.map_toArray, List.map_cons, List.map_nil, hs, hx, hrun]
  exact h
end Go.Proofs.Ythggfbpdhkpkjaa
namespace Go.Proofs.Ythggfbpdhkpkjaa
set_option maxRecDepth 100000
open Go Go.RowKit
set_option maxHeartbeats 2000000 in
theorem csign_err (A B : Option Addr) (m c n d : Nat) (key x : Int) (R : List UInt8) (ec : Int) (hec : ec ≠ 0) (w : World) (hr : RB w B n d R) (hc : rightC x R = true)
    (hs : ∀ (B3 : Option Addr) (m3 d3 : Nat) (w' : World), Calls Try.prog 83 #[.slice A m c, .int .i64 key, .slice B3 m3 d3] w' fun e w'' => e = .returned (.tuple #[.agg #[.int .i64 0, .slice none 0 0, .slice none 0 0], .int .i64 ec]) ∧ Ext w' w'') :
    Calls Try.prog 34 #[.slice A m c, .int .i64 key, .agg #[.int .i64 x, .slice B n d]] w fun e w' => e = .returned (.tuple #[.agg #[.int .i64 0, .slice none 0 0, .int .i64 0, .slice none 0 0, .slice none 0 0], .int .i64 ec]) ∧ Ext w w' := by
  have hE0 := Ext.new w (.cells #[.int .i64 x, .slice B n d] 24)
  have hB0 := Blk.new w 24 #[.int .i64 x, .slice B n d]
  have hE1 := Ext.new (w.alloc (.cells #[.int .i64 x, .slice B n d] 24)) (.cells #[.int .i64 0, .slice none 0 0, .int .i64 0, .slice none 0 0, .slice none 0 0] 41)
  have hB1 := Blk.new (w.alloc (.cells #[.int .i64 x, .slice B n d] 24)) 41 #[.int .i64 0, .slice none 0 0, .int .i64 0, .slice none 0 0, .slice none 0 0]
  rw [World.size_alloc] at hB1
  replace hB0 := hB0.ext hE1
  have hE01 := hE0.trans hE1
  have Hs := Lib.hid hs
  clear hs
  go_enter Try.func34, Try.ntmps34
  go_wp2_with fail
  refine (cright_any x B n d R _ (hr.ext hE01)).mono ?_
  rintro e w2 ⟨rfl, hE⟩
  rw [hc]
  replace hB0 := hB0.ext hE
  replace hB1 := hB1.ext hE
  replace hE01 := hE01.trans hE
  have rR := hr.ext hE01
  clear hE0 hE1 hE hr
  have y0 := hB0.cell (i := 0) (v := .int .i64 x) rfl
  have y1 := hB0.cell (i := 1) (v := .slice B n d) rfl
  go_wp2_with fail
  refine (cbody_52 x B n d R w2 rR hc).mono ?_
  rintro e w3 ⟨B3, d3, rfl, rM, hE⟩
  replace hB0 := hB0.ext hE
  replace hB1 := hB1.ext hE
  replace hE01 := hE01.trans hE
  clear hE rR y0 y1 hc
  go_wp2_with fail
  refine (Hs.out B3 52 d3 w3).mono ?_
  rintro e w4 ⟨rfl, hE⟩
  have hEn := Ext.new w4 (.cells #[.int .i64 0, .slice none 0 0, .slice none 0 0] 39)
  replace hE := hE.trans hEn
  replace hB1 := hB1.ext hE
  replace hE01 := hE01.trans hE
  clear hE hEn Hs hB0 rM
  have fhB10 := hB1.frozen 0
  have fhB11 := hB1.frozen 1
  have fhB12 := hB1.frozen 2
  have fhB13 := hB1.frozen 3
  have fhB14 := hB1.frozen 4
  have xhB10 := hB1.cell (i := 0) rfl
  have xhB11 := hB1.cell (i := 1) rfl
  have xhB12 := hB1.cell (i := 2) rfl
  have xhB13 := hB1.cell (i := 3) rfl
  have xhB14 := hB1.cell (i := 4) rfl
  go_wp2_with fail
  refine bodyPost_ret (results_sig rfl _ _ (w.heap.size + 1) _ _ _ rfl (setall5 hB1 _ _ _ _ _) Try.underlying41 rfl rfl) rfl ?_
  exact ⟨rfl, ext5 hE01 (Nat.le_succ _) _ _ _ _ _⟩
theorem RB.set2s {w : World} {A : Option Addr} {n c : Nat} {L : List UInt8} (h : RB w A n c L) {g : Nat} {t : TypeId} {x k : Int} {A0 P Q : Option Addr} {n0 c0 np cp nq cq : Nat} (hB : Blk w g t (sgdC x A0 n0 c0 k P np cp Q nq cq))
    (x' : Int) (A1 : Option Addr) (n1 c1 : Nat) : RB ((w.setCell ⟨g, 0, none⟩ (.int .i64 x')).setCell ⟨g, 1, none⟩ (.slice A1 n1 c1)) A n c L := by
  have b0 : Blk (w.setCell ⟨g, 0, none⟩ (.int .i64 x')) g t (sgdC x' A0 n0 c0 k P np cp Q nq cq) := hB.set 0 _
  have h0 := h.grown (grown_set w ⟨g, 0, none⟩ (.int .i64 x')) (h.apart5 hB (sgd_no _ _ _ _ _ _ _ _ _ _ _))
  exact h0.grown (grown_set _ ⟨g, 1, none⟩ (.slice A1 n1 c1)) (h0.apart5 b0 (sgd_no _ _ _ _ _ _ _ _ _ _ _))
theorem RBB.set2s {w : World} {A : Option Addr} {n c : Nat} {L : List (List UInt8)} (h : RBB w A n c L) (hn : 3 ≤ n) {g : Nat} {t : TypeId} {x k : Int} {A0 P Q : Option Addr} {n0 c0 np cp nq cq : Nat} (hB : Blk w g t (sgdC x A0 n0 c0 k P np cp Q nq cq))
    (x' : Int) (A1 : Option Addr) (n1 c1 : Nat) : RBB ((w.setCell ⟨g, 0, none⟩ (.int .i64 x')).setCell ⟨g, 1, none⟩ (.slice A1 n1 c1)) A n c L := by
  have b0 : Blk (w.setCell ⟨g, 0, none⟩ (.int .i64 x')) g t (sgdC x' A0 n0 c0 k P np cp Q nq cq) := hB.set 0 _
  have hA : 0 < n → blk A ≠ some g := fun _ => h.apart_sgd hn hB
  exact (h.away hB (sgd_no _ _ _ _ _ _ _ _ _ _ _) (grown_set w ⟨g, 0, none⟩ (.int .i64 x')) hA).away b0 (sgd_no _ _ _ _ _ _ _ _ _ _ _) (grown_set _ ⟨g, 1, none⟩ (.slice A1 n1 c1)) hA
def xsN (j : Nat) : Int := ([-1, 0, 1, 255, 256, 257, 1099511627776] : List Int).getD j 0
def ksN (j : Nat) : Nat := ([0, 31, 32, 33] : List Nat).getD j 0
theorem xsN_cell {w : World} {g : Nat} (h : Blk w g 3 #[.int .i64 (-1), .int .i64 0, .int .i64 1, .int .i64 255, .int .i64 256, .int .i64 257, .int .i64 1099511627776]) {j : Nat} (hj : j < 7) : w.cell? ⟨g, j, none⟩ = some (.int .i64 (xsN j)) := by
  refine h.cell ?_
  match j, hj with
  | 0, _ => rfl
  | 1, _ => rfl
  | 2, _ => rfl
  | 3, _ => rfl
  | 4, _ => rfl
  | 5, _ => rfl
  | 6, _ => rfl
theorem ksN_cell {w : World} {g : Nat} (h : Blk w g 3 #[.int .i64 0, .int .i64 31, .int .i64 32, .int .i64 33]) {j : Nat} (hj : j < 4) : w.cell? ⟨g, j, none⟩ = some (.int .i64 (ksN j : Int)) := by
  refine h.cell ?_
  match j, hj with
  | 0, _ => rfl
  | 1, _ => rfl
  | 2, _ => rfl
  | 3, _ => rfl
theorem ksN_le (j : Nat) : ksN j ≤ 33 := by
  unfold ksN
  match j with
  | 0 => decide
  | 1 => decide
  | 2 => decide
  | 3 => decide
  | j + 4 => simp
def N10A (w : World) (i : Value) (wr : World) : Prop := ∃ j : Nat, j ≤ 7 ∧ i = .int .i64 j ∧ Ext w wr
def N10B (w : World) (i : Value) (wr : World) : Prop := ∃ j : Nat, j ≤ 4 ∧ i = .int .i64 j ∧ Ext w wr
def N10C (w : World) (i : Value) (wr : World) : Prop := ∃ j : Nat, j ≤ 2252 ∧ i = .int .i64 j ∧ Ext w wr
set_option maxHeartbeats 16000000 in
theorem numbers10_law (w : World) : Calls Try.prog 6 #[] w fun e w' => e = .returned (.bool true) ∧ Ext w w' := by
  go_enter Try.func6, Try.ntmps6
  have hEa := Ext.new w (.cells #[.int .i64 (-1), .int .i64 0, .int .i64 1, .int .i64 255, .int .i64 256, .int .i64 257, .int .i64 1099511627776] 3)
  have hBi := Blk.new w 3 #[.int .i64 (-1), .int .i64 0, .int .i64 1, .int .i64 255, .int .i64 256, .int .i64 257, .int .i64 1099511627776]
  go_wp2_with fail
  generalize w.alloc (.cells #[.int .i64 (-1), .int .i64 0, .int .i64 1, .int .i64 255, .int .i64 256, .int .i64 257, .int .i64 1099511627776] 3) = w1 at *
  obtain ⟨gi, hgi⟩ : ∃ gi, gi = w.heap.size := ⟨_, rfl⟩
  rw [← hgi] at hBi ⊢
  clear hgi
  go_loopw [18] (fun i wr => N10A w1 i wr) (fun i _ => 7 - (intOf i).toNat)
  case atStart => exact ⟨0, by omega, rfl, Ext.refl _⟩
  case round =>
    obtain ⟨j, hj, rfl, hEr⟩ := hrel
    replace hBi := hBi.ext hEr
    by_cases hlt : j < 7
    · have hji : (j : Int) < 7 := by omega
      have y1 := xsN_cell hBi hlt
      obtain ⟨X, hX⟩ : ∃ X, X = xsN j := ⟨_, rfl⟩
      rw [← hX] at y1
      clear hX
      have hEn := Ext.new wr (.cells #[.int .i64 0, .int .i64 31, .int .i64 32, .int .i64 33] 3)
      have hBk := Blk.new wr 3 #[.int .i64 0, .int .i64 31, .int .i64 32, .int .i64 33]
      replace hEr := hEr.trans hEn
      go_wp2_with fail
      generalize wr.alloc (.cells #[.int .i64 0, .int .i64 31, .int .i64 32, .int .i64 33] 3) = wo at *
      generalize wr.heap.size = gk at *
      clear y1 hBi hEn
      go_loopw [24] (fun i wr => N10B wo i wr) (fun i _ => 4 - (intOf i).toNat)
      case atStart => exact ⟨0, by omega, rfl, Ext.refl _⟩
      case round =>
        obtain ⟨i, hi, rfl, hEs⟩ := hrel
        replace hBk := hBk.ext hEs
        by_cases hlt2 : i < 4
        · have hii : (i : Int) < 4 := by omega
          have y1 := ksN_cell hBk hlt2
          have hk33 := ksN_le i
          generalize ksN i = K at *
          have hsg := signed_any 0 3 4 5 wr (by omega) (by omega) (by omega) (by omega) (by omega) (by omega) (by omega) (by omega)
          go_wp2_with fail
          refine hsg.mono ?_
          rintro e w2 ⟨k, hkx, hk, B, d, P, v1, Q, u1, Xp, cx, rfl, rR, rP, rQ, rX, hE⟩
          clear hkx hsg y1
          generalize within 4 0 256 = x at *
          generalize khash 5 = R at *
          generalize sigP (seedL 0) (bodyC checkL x R) k = PS at *
          generalize pathL (seedL 0) k = QS at *
          generalize ownP (seedL 0) = XL at *
          replace hEs := hEs.trans hE
          have hw2 := hEs.size
          have hEn := Ext.new w2 (.cells #[.int .i64 x, .slice B 32 d, .int .i64 (k : Int), .slice P 64 v1, .slice Q 4 u1] 41)
          have hB5 := Blk.new w2 41 #[.int .i64 x, .slice B 32 d, .int .i64 (k : Int), .slice P 64 v1, .slice Q 4 u1]
          replace rR := rR.ext hEn
          replace rP := rP.ext hEn
          replace rQ := rQ.ext hEn
          replace rX := rX.ext hEn
          replace hEs := hEs.trans hEn
          obtain ⟨w3, hw3⟩ : ∃ w3, w3 = w2.alloc (.cells #[.int .i64 x, .slice B 32 d, .int .i64 (k : Int), .slice P 64 v1, .slice Q 4 u1] 41) := ⟨_, rfl⟩
          obtain ⟨g5, hg5⟩ : ∃ g5, g5 = w2.heap.size := ⟨_, rfl⟩
          rw [← hg5] at hB5 hw2
          rw [← hw3] at hB5 rR rP rQ rX hEs
          clear hE hEn hBk
          go_wp2_with (rw [← hw3, ← hg5]; clear hw3 hg5; refine make_law (k := K) rfl rfl rfl rfl (by omega) ?_; intro w6 own6 hE6; have hB6 := hB5.ext hE6; have f0 := hB6.frozen 0; have f1 := hB6.frozen 1; have x0 := hB6.cell (i := 0) rfl; have x1 := hB6.cell (i := 1) rfl; have hB7 := (hB6.set 0 (.int .i64 X)).set 1 (.slice (some ⟨w3.heap.size, 0, none⟩) K K); have z0 := hB7.cell (i := 0) rfl; have z1 := hB7.cell (i := 1) rfl; have z2 := hB7.cell (i := 2) rfl; have z3 := hB7.cell (i := 3) rfl; have z4 := hB7.cell (i := 4) rfl)
          have e1 := (rX.ext hE6).set2s hB6 X (some ⟨w3.heap.size, 0, none⟩) K K
          have e2 := (rP.ext hE6).set2s (by omega) hB6 X (some ⟨w3.heap.size, 0, none⟩) K K
          have e3 := (rQ.ext hE6).set2s (by omega) hB6 X (some ⟨w3.heap.size, 0, none⟩) K K
          have e4 := own6.rb.set2s hB6 X (some ⟨w3.heap.size, 0, none⟩) K K
          have e5 := ((hEs.trans hE6).set (p := ⟨g5, 0, none⟩) hw2 (.int .i64 X)).set (p := ⟨g5, 1, none⟩) hw2 (.slice (some ⟨w3.heap.size, 0, none⟩) K K)
          clear z0 z1 z2 z3 z4 f0 f1 x0 x1 hB6 hB7 own6 hE6 rX rP rQ rR hEs hB5
          generalize (w6.setCell ⟨g5, 0, none⟩ (.int .i64 X)).setCell ⟨g5, 1, none⟩ (.slice (some ⟨w3.heap.size, 0, none⟩) K K) = w7 at *
          refine (same10_any Xp _ P Q 32 cx K K 64 v1 4 u1 X (k : Int) XL _ PS QS w7 e1 e4 e2 e3).mono ?_
          rintro e w8 ⟨rfl, hE⟩
          go_wp2_with fail
          go_roundw
          case rel => exact ⟨i + 1, by omega, by go_num, e5.trans hE⟩
          case measure => simp [intOf]; omega
        · obtain rfl : i = 4 := by omega
          go_wp2_with fail
          go_roundw
          case rel => exact ⟨j + 1, by omega, by go_num, hEr.trans hEs⟩
          case measure => simp [intOf]; omega
    · obtain rfl : j = 7 := by omega
      go_wp2_with fail
      have hsg := signed_any 1 2 3 4 wr (by omega) (by omega) (by omega) (by omega) (by omega) (by omega) (by omega) (by omega)
      have hRl := khash_length 4
      have hxw := within_in 3 0 256 (by omega)
      refine hsg.mono ?_
      rintro e w2 ⟨k, hkx, hk, B, d, P, v1, Q, u1, Xp, cx, rfl, rR, rP, rQ, rX, hE⟩
      clear hkx hsg hBi
      generalize within 3 0 256 = x at *
      generalize khash 4 = R at *
      have hc := rightC_of hxw.1 hxw.2 hRl
      have hp := putOK_own (seedL 1) (bodyC checkL x R) R x k hk hc
      have hpl := putL_len hp
      have Hc := Lib.hid hc
      generalize sigP (seedL 1) (bodyC checkL x R) k = PS at *
      generalize pathL (seedL 1) k = QS at *
      clear rX
      replace hEa := (hEa.trans hEr).trans hE
      have hEn := Ext.new w2 (.cells #[.int .i64 x, .slice B 32 d, .int .i64 (k : Int), .slice P 64 v1, .slice Q 4 u1] 41)
      have hB7 := Blk.new w2 41 #[.int .i64 x, .slice B 32 d, .int .i64 (k : Int), .slice P 64 v1, .slice Q 4 u1]
      replace rR := rR.ext hEn
      replace rP := rP.ext hEn
      replace rQ := rQ.ext hEn
      replace hEa := hEa.trans hEn
      clear hE hEn hc hxw hRl hEr
      have Hp := Lib.hid hp
      have Hpl := Lib.hid hpl
      clear hp hpl
      go_wp2_with fail
      generalize w2.alloc (.cells #[.int .i64 x, .slice B 32 d, .int .i64 (k : Int), .slice P 64 v1, .slice Q 4 u1] 41) = w3 at *
      generalize w2.heap.size = g7 at *
      refine (rcput_any B P Q 32 d 64 v1 4 u1 x (k : Int) R PS QS w3 rR rP rQ).mono ?_
      rintro e w4 ⟨G, m, cg, rfl, rG, hE⟩
      obtain rfl : m = 2216 := rG.len.symm.trans Hpl.out
      rw [Hp.out]
      generalize putL x R (k : Int) PS QS = M at *
      replace rR := rR.ext hE
      replace rP := rP.ext hE
      replace rQ := rQ.ext hE
      replace hB7 := hB7.ext hE
      replace hEa := hEa.trans hE
      clear hE Hp
      go_wp2_with fail
      go_loopw [11] (fun i wr => N10C w4 i wr) (fun i _ => 2253 - (intOf i).toNat)
      case atStart => exact ⟨0, by omega, rfl, Ext.refl _⟩
      case round =>
        obtain ⟨j, hj, rfl, hEr⟩ := hrel
        by_cases hlt : j < 2216
        · have hji : (j : Int) < 2216 := by omega
          have rJ := (rG.ext hEr).take (k := j) (by omega)
          obtain ⟨ad, rfl, _⟩ := rG.cells (by omega)
          have hcg := rG.room
          have hcg2 := rG.cap
          unfold maxLen at hcg2
          have hb := reads10_any _ j cg _ wr rJ (by omega)
          have Hb := Lib.hid hb
          clear hb rJ
          go_wp2_with fail
          refine Hb.out.mono ?_
          rintro e w5 ⟨rfl, hE⟩
          go_wp2_with fail
          go_roundw
          case rel => exact ⟨j + 37, by omega, by go_num, hEr.trans hE⟩
          case measure => simp [intOf]; omega
        · have hji : ¬ ((j : Int) < 2216) := by omega
          replace rR := rR.ext hEr
          replace rP := rP.ext hEr
          replace rQ := rQ.ext hEr
          replace hB7 := hB7.ext hEr
          replace rG := rG.ext hEr
          replace hEa := hEa.trans hEr
          clear hEr
          go_upto_region 20 with (fail)
          refine par_tup (n := 8) (jp := 7) (jq := 5) 6 5 (by kernel_rfl) [.rk (32) (seedL (1 : Int)), .is (.pointer (some ⟨g7, 0, none⟩)), .is (.agg #[.int .i64 (x), .slice (B) (32) (d)]), .is (.tuple #[.agg #[.int .i64 ((0 : Int)), .slice (none) (0) (0), .int .i64 ((0 : Int)), .slice (none) (0) (0), .slice (none) (0) (0)], .int .i64 ((23 : Int))]), .is (.tuple #[.agg #[.int .i64 ((0 : Int)), .slice (none) (0) (0), .int .i64 ((0 : Int)), .slice (none) (0) (0), .slice (none) (0) (0)], .int .i64 ((23 : Int))]), .is (.agg #[.int .i64 ((0 : Int)), .slice (none) (0) (0), .int .i64 ((0 : Int)), .slice (none) (0) (0), .slice (none) (0) (0)]), .is (.int .i64 ((23 : Int))), .bk (wr.heap.size) 41 #[.int .i64 ((0 : Int)), .slice (none) (0) (0), .int .i64 ((0 : Int)), .slice (none) (0) (0), .slice (none) (0) (0)]] rfl rfl rfl rfl rfl rfl rfl rfl rfl rfl rfl (by decide) (by decide) (by decide) (by decide) (tup_bk _ rfl) (tup_is _ rfl rfl) (by kernel_rfl) ⟨?_, ?_, ?_, ?_, ?_, ?_, ?_, ?_, trivial⟩ ?_
          · refine stepE rfl fun sdn sa sw sE sd sk => ?_
            refine Runs.call (f := 35) (vs := [.int .i64 ((1 : Int))]) rfl rfl rfl (by simp only [List.map_toArray, List.map_cons, List.map_nil] <;> rfl) (ent35 _ _) ((seed_any (1 : Int) sw (by omega) (by omega)).mono ?_); rintro e w' ⟨A', c', rfl, own, hx⟩; exact ⟨_, rfl, hx, A', c', rfl, own.rb⟩
          · refine stepE rfl fun sdn sa sw sE sd sk => ?_
            have h7 : sa.eval (.tmp 7) = .pointer (some ⟨g7, 0, none⟩) := sk.old 7 rfl
            refine Runs.of_run (r := .pointer (some ⟨g7, 0, none⟩)) (w' := sw) ?_ ⟨Ext.refl _, rfl⟩
            unfold execOp
            simp only [h7]
            go_simp
          · refine stepE rfl fun sdn sa sw sE sd sk => ?_
            have h65 : sa.eval (.tmp 65) = .pointer (some ⟨g7, 0, none⟩) := sk.fact 1 65 rfl (sd 1 rfl)
            exact Runs.load rfl h65 (load_part (hB7.ext sE) 0 (vs := [.int .i64 (x), .slice (B) (32) (d)]) rfl Try.underlying24 rfl (by kernel_rfl)) ⟨Ext.refl _, rfl⟩
          · refine stepE rfl fun sdn sa sw sE sd sk => ?_
            obtain ⟨A64, c64, h64, r64⟩ := sk.fact 0 64 rfl (sd 0 rfl)
            have h66 : sa.eval (.tmp 66) = .agg #[.int .i64 (x), .slice (B) (32) (d)] := sk.fact 2 66 rfl (sd 2 rfl)
            refine Runs.call (f := 34) (vs := [.slice (A64) (32) (c64), .int .i64 ((16 : Int)), .agg #[.int .i64 (x), .slice (B) (32) (d)]]) rfl rfl rfl (by simp only [List.map_toArray, List.map_cons, List.map_nil, h64, h66] <;> rfl) (ent34 _ _) ((csign_err _ _ _ _ _ _ 16 _ _ 23 (by decide) sw (rR.ext sE) Hc.out (fun B3 m3 d3 w' => ssign_used _ B3 _ m3 d3 16 w' (.inr (by decide)))).mono ?_); rintro e w' ⟨rfl, hx⟩; exact ⟨_, rfl, hx, rfl⟩
          · refine stepE rfl fun sdn sa sw sE sd sk => ?_
            have h67 : sa.eval (.tmp 67) = .tuple #[.agg #[.int .i64 ((0 : Int)), .slice (none) (0) (0), .int .i64 ((0 : Int)), .slice (none) (0) (0), .slice (none) (0) (0)], .int .i64 ((23 : Int))] := sk.fact 3 67 rfl (sd 3 rfl)
            exact Runs.move rfl h67 ⟨Ext.refl _, rfl⟩
          · refine stepE rfl fun sdn sa sw sE sd sk => ?_
            have h63 : sa.eval (.tmp 63) = .tuple #[.agg #[.int .i64 ((0 : Int)), .slice (none) (0) (0), .int .i64 ((0 : Int)), .slice (none) (0) (0), .slice (none) (0) (0)], .int .i64 ((23 : Int))] := sk.fact 4 63 rfl (sd 4 rfl)
            refine Runs.of_run (r := .agg #[.int .i64 ((0 : Int)), .slice (none) (0) (0), .int .i64 ((0 : Int)), .slice (none) (0) (0), .slice (none) (0) (0)]) (w' := sw) ?_ ⟨Ext.refl _, rfl⟩
            unfold execOp
            simp only [h63]
            go_simp
          · refine stepE rfl fun sdn sa sw sE sd sk => ?_
            have h63 : sa.eval (.tmp 63) = .tuple #[.agg #[.int .i64 ((0 : Int)), .slice (none) (0) (0), .int .i64 ((0 : Int)), .slice (none) (0) (0), .slice (none) (0) (0)], .int .i64 ((23 : Int))] := sk.fact 4 63 rfl (sd 4 rfl)
            refine Runs.of_run (r := .int .i64 ((23 : Int))) (w' := sw) ?_ ⟨Ext.refl _, rfl⟩
            unfold execOp
            simp only [h63]
            go_simp
          · refine stepE rfl fun sdn sa sw sE sd sk => ?_
            refine Runs.of_run (r := .pointer (some ⟨sw.heap.size, 0, none⟩)) (w' := sw.alloc (.cells #[.int .i64 ((0 : Int)), .slice (none) (0) (0), .int .i64 ((0 : Int)), .slice (none) (0) (0), .slice (none) (0) (0)] 41)) ?_ ⟨Ext.new _ _, _, rfl, Blk.new _ _ _, sE.size⟩
            unfold execOp
            go_simp
          intro vals W20 hE20 hv20 gst vst hgst hvst
          obtain ⟨A64, c64, e0, r64⟩ := hv20 0 (by omega) 64 rfl
          have e1 : vals 1 = .pointer (some ⟨g7, 0, none⟩) := hv20 1 (by omega) 65 rfl
          have e2 : vals 2 = .agg #[.int .i64 (x), .slice (B) (32) (d)] := hv20 2 (by omega) 66 rfl
          have e3 : vals 3 = .tuple #[.agg #[.int .i64 ((0 : Int)), .slice (none) (0) (0), .int .i64 ((0 : Int)), .slice (none) (0) (0), .slice (none) (0) (0)], .int .i64 ((23 : Int))] := hv20 3 (by omega) 67 rfl
          have e4 : vals 4 = .tuple #[.agg #[.int .i64 ((0 : Int)), .slice (none) (0) (0), .int .i64 ((0 : Int)), .slice (none) (0) (0), .slice (none) (0) (0)], .int .i64 ((23 : Int))] := hv20 4 (by omega) 63 rfl
          have e5 : vals 5 = .agg #[.int .i64 ((0 : Int)), .slice (none) (0) (0), .int .i64 ((0 : Int)), .slice (none) (0) (0), .slice (none) (0) (0)] := hv20 5 (by omega) 68 rfl
          have e6 : vals 6 = .int .i64 ((23 : Int)) := hv20 6 (by omega) 69 rfl
          obtain ⟨g12, e7, hb12, gb12⟩ := hv20 7 (by omega) 12 rfl
          obtain rfl : gst = g12 := pointer_eq hgst e7
          obtain rfl : vst = #[.int .i64 ((0 : Int)), .slice (none) (0) (0), .int .i64 ((0 : Int)), .slice (none) (0) (0), .slice (none) (0) (0)] := Value.agg.inj (hvst.symm.trans e5)
          simp only [putAll, Act.put, List.take_succ_cons, List.take_zero, List.drop_succ_cons, List.drop_zero, List.drop_nil, List.take_nil, Nat.reduceAdd, List.setIfInBounds_toArray, List.set_cons_succ, List.set_cons_zero, e0, e1, e2, e3, e4, e5, e6, e7]
          clear hv20 e0 e1 e2 e3 e4 e5 e6 e7 hgst hvst
          have hGt := grown_setCells gst (#[.int .i64 ((0 : Int)), .slice (none) (0) (0), .int .i64 ((0 : Int)), .slice (none) (0) (0), .slice (none) (0) (0)] : Array Value).toList 0 W20
          have hB20 := hb12.setAll (vs := #[.int .i64 ((0 : Int)), .slice (none) (0) (0), .int .i64 ((0 : Int)), .slice (none) (0) (0), .slice (none) (0) (0)]) rfl
          have hE20s := hE20.then_grown hGt (by intro k hk; cases hk; exact gb12)
          clear hGt hb12 gb12
          generalize W20.setCells gst 0 (#[.int .i64 ((0 : Int)), .slice (none) (0) (0), .int .i64 ((0 : Int)), .slice (none) (0) (0), .slice (none) (0) (0)] : Array Value).toList = W20b at *
          replace rR := rR.ext hE20s
          replace hB7 := hB7.ext hE20s
          replace rG := rG.ext hE20s
          replace hEa := hEa.trans hE20s
          clear hE20 hE20s hB20 rP rQ r64
          have es : (#[.int .u8 115, .int .u8 104, .int .u8 111, .int .u8 114, .int .u8 116] : Array Value).size = 5 := rfl
          have s0 := Lib.run_convert_bytes_const (P := Try.prog) W20b 22 5 #[.int .u8 115, .int .u8 104, .int .u8 111, .int .u8 114, .int .u8 116] 5 5 Try.underlying22 Try.underlying5
          rw [es] at s0
          obtain ⟨w5, hw5⟩ : ∃ w5, w5 = W20b.alloc (.cells #[.int .u8 115, .int .u8 104, .int .u8 111, .int .u8 114, .int .u8 116] 5 (5, 5 + 1)) := ⟨_, rfl⟩
          have hE5 : Ext W20b w5 := by rw [hw5]; exact Ext.new W20b _
          rw [← hw5] at s0
          replace rR := rR.ext hE5
          replace hB7 := hB7.ext hE5
          replace rG := rG.ext hE5
          replace hEa := hEa.trans hE5
          have y0 := hB7.cell (i := 0) (v := .int .i64 x) rfl
          have y1 := hB7.cell (i := 1) (v := .slice B 32 d) rfl
          clear hw5 es hE5
          go_wp2_with fail
          refine (csign_err _ B 5 5 32 d 0 x R 1 (by decide) w5 rR Hc.out (fun B3 m3 d3 w' => ssign_arg _ B3 5 5 m3 d3 0 w' (by decide))).mono ?_
          rintro e w6 ⟨rfl, hE⟩
          have hEn := Ext.new w6 (.cells #[.int .i64 0, .slice none 0 0, .int .i64 0, .slice none 0 0, .slice none 0 0] 41)
          replace hE := hE.trans hEn
          replace rG := rG.ext hE
          replace hEa := hEa.trans hE
          clear hE hEn s0 y0 y1 hB7 rR
          go_wp2_with fail
          generalize w6.alloc (.cells #[.int .i64 0, .slice none 0 0, .int .i64 0, .slice none 0 0, .slice none 0 0] 41) = w7 at *
          refine (reads10_any G 2216 cg M w7 rG (by omega)).mono ?_
          rintro e w8 ⟨rfl, hE⟩
          replace rG := rG.ext hE
          replace hEa := hEa.trans hE
          have hEa0 := hEa.size
          clear hE
          go_wp2_with fail
          have hEn := Ext.new w8 (.cells #[] 5)
          have hL0 : RB (w8.alloc (.cells #[] 5)) (some ⟨w8.heap.size, 0, none⟩) 0 0 [] := RB.lit w8 [] rfl (small_maxLen (by decide))
          obtain ⟨A9, c9, w9, hrun, own9, hE9⟩ := run_app_full 22 hL0 (rG.ext hEn) (by omega) (by omega)
          refine app_wp rfl rfl rfl hrun ?_
          replace hEa := hEa.trans (hEn.trans hE9)
          rw [Nat.zero_add, List.nil_append] at own9
          have rG9 := rG.ext (hEn.trans hE9)
          clear hrun hL0
          have hEm := Ext.new w9 (.cells #[.int .u8 1] 5)
          have hL1 : RB (w9.alloc (.cells #[.int .u8 1] 5)) (some ⟨w9.heap.size, 0, none⟩) 1 1 [1] := RB.lit w9 [1] rfl (small_maxLen (by decide))
          obtain ⟨A8, c8, w10, hrun, own10, g10, _⟩ := run_app 22 (own9.ext hEm) hL1 (by omega) (Nat.le_trans hE9.size hEm.size)
          have hE10 := ((own9.ext hEm).base (base' := w.heap.size) (Nat.le_trans hEa0 hEn.size)).step (hEa.trans hEm) g10
          go_wp2_with fail
          refine app_wp rfl rfl rfl hrun ?_
          clear hrun hL1 hEm g10 own9 hEn hE9
          go_wp2_with fail
          refine (reads10_any A8 2217 c8 _ w10 own10.rb (by omega)).mono ?_
          rintro e w11 ⟨rfl, hE⟩
          go_wp2_with fail
          refine (known10_any w11).mono ?_
          rintro e w12 ⟨rfl, hE12⟩
          go_wp2_with fail
          go_ret
          exact ⟨rfl, (hE10.trans hE).trans hE12⟩
end Go.Proofs.Ythggfbpdhkpkjaa

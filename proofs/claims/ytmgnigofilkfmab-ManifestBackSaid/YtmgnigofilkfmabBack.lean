/-
  law9.ManifestBack, walked.
-/
import Derived.Test.YtmgnigofilkfmabManPar
import Derived.Test.YtmgnigofilkfmabKnown9
namespace Go.Proofs.Ytmgnigofilkfmab
set_option maxRecDepth 100000
open Go Go.RowKit
def MP.manx (m : Man) : MP Ext := ⟨fun u w => ∃ F nf cf N nn cn, u = manV m F nf cf N nn cn ∧ RB w F nf cf m.fw ∧ RB w N nn cn m.notes, fun _ _ _ e ⟨F, nf, cf, N, nn, cn, h1, h2, h3⟩ => ⟨F, nf, cf, N, nn, cn, h1, h2.ext e, h3.ext e⟩⟩
def twoCells (m k : Man) (F : Option Addr) (nf cf : Nat) (N : Option Addr) (nn cn : Nat) (F' : Option Addr) (nf' cf' : Nat) (N' : Option Addr) (nn' cn' : Nat) : Array Value :=
  #[.string (str m.name), .int .u32 (u32i m.ver), .slice F nf cf, .slice N nn cn, .string (str k.name), .int .u32 (u32i k.ver), .slice F' nf' cf', .slice N' nn' cn']
def MP.two (m k : Man) (F : Option Addr) (nf cf : Nat) (N : Option Addr) (nn cn : Nat) : MP Ext := ⟨fun u w => ∃ g F' nf' cf' N' nn' cn', u = .slice (some ⟨g, 0, none⟩) 2 2 ∧ Blk w g 27 (twoCells m k F nf cf N nn cn F' nf' cf' N' nn' cn') ∧ RB w F' nf' cf' k.fw ∧ RB w N' nn' cn' k.notes,
  fun _ _ _ e ⟨g, F', nf', cf', N', nn', cn', h1, h2, h3, h4⟩ => ⟨g, F', nf', cf', N', nn', cn', h1, h2.ext e, h3.ext e, h4.ext e⟩⟩
theorem run_two (w : World) (m k : Man) (F : Option Addr) (nf cf : Nat) (N : Option Addr) (nn cn : Nat) (F' : Option Addr) (nf' cf' : Nat) (N' : Option Addr) (nn' cn' : Nat) :
    (Instr.buildSlice 36 2 #[(0, manV m F nf cf N nn cn), (1, manV k F' nf' cf' N' nn' cn')]).run Try.prog w = .ok (.slice (some ⟨w.heap.size, 0, none⟩) 2 2) (w.alloc (.cells (twoCells m k F nf cf N nn cn F' nf' cf' N' nn' cn') 27)) := by
  unfold manV twoCells
  go_simp
theorem Runs.two {o : Oper} {ρ : Operand → Value} {w : World} {G : Value → World → Prop} {x y : Operand} {m k : Man} {F : Option Addr} {nf cf : Nat} {N : Option Addr} {nn cn : Nat} {F' : Option Addr} {nf' cf' : Nat} {N' : Option Addr} {nn' cn' : Nat} (ho : o.op = .buildSlice 36 2 #[(0, x), (1, y)]) (h0 : ρ x = manV m F nf cf N nn cn) (h1 : ρ y = manV k F' nf' cf' N' nn' cn')
    (h : ∀ w', Ext w w' → Blk w' w.heap.size 27 (twoCells m k F nf cf N nn cn F' nf' cf' N' nn' cn') → G (.slice (some ⟨w.heap.size, 0, none⟩) 2 2) w') : Runs Try.prog o ρ w G := by
  refine Runs.of_run (r := .slice (some ⟨w.heap.size, 0, none⟩) 2 2) ?_ (h _ (Ext.new w _) (Blk.new w _ _))
  unfold execOp
  simp only [ho, h0, h1, List.map_toArray, List.map_cons, List.map_nil, Sem.run_bind, run_two, Result.andThen_ok, Sem.run_pure]
set_option maxHeartbeats 4000000 in
theorem back_law (m : Man) (F N B : Option Addr) (nf cf nn cn nb cb : Nat) (L : List UInt8) (a v f : Int) (w : World) (hml : m.name.length ≤ maxLen) (hF : RB w F nf cf m.fw) (hN : RB w N nn cn m.notes) (hb : RB w B nb cb L) (hnb : nb ≤ 140737488355328)
    (ha0 : -9223372036854775808 ≤ a) (ha1 : a ≤ 9223372036854775807) (hv0 : -9223372036854775808 ≤ v) (hv1 : v ≤ 9223372036854775807) (hf0 : -9223372036854775808 ≤ f) (hf1 : f ≤ 9223372036854775807) :
    Calls Try.prog 4 #[manV m F nf cf N nn cn, .int .i64 a, .int .i64 v, .int .i64 f, .slice B nb cb] w fun e w' => e = .returned (.bool true) ∧ Ext w w' := by
  obtain ⟨k, hk⟩ : ∃ k, k = kman a v f := ⟨_, rfl⟩
  have hkr : rightM k = true := by rw [hk]; exact kman_right a v f
  have Hk := Lib.hid hk
  have Hkr := Lib.hid hkr
  clear hk hkr
  unfold manV
  go_enter Try.func4, Try.ntmps4
  go_upto_region 1 with (fail)
  obtain ⟨w1, hw1⟩ : ∃ w1, w1 = w.alloc (.cells #[.string (str m.name), .int .u32 (u32i m.ver), .slice F nf cf, .slice N nn cn] 27) := ⟨_, rfl⟩
  have hA1 : Blk w1 w.heap.size 27 #[.string (str m.name), .int .u32 (u32i m.ver), .slice F nf cf, .slice N nn cn] := by rw [hw1]; exact Blk.new w _ _
  have hE1 : Ext w w1 := by rw [hw1]; exact Ext.new w _
  rw [← hw1]
  clear hw1
  refine par_ext (n := 8) (by kernel_rfl) [.is (manV m F nf cf N nn cn), .is (.int .i64 ((a : Int))), .is (.int .i64 ((v : Int))), .is (.int .i64 ((f : Int))), .manx (k), .two m k F nf cf N nn cn, .is (.int .i64 ((2 : Int))), .is (.int .i64 ((0 : Int)))] rfl ⟨?_, ?_, ?_, ?_, ?_, ?_, ?_, ?_, trivial⟩ ?_
  · refine stepE rfl fun sdn sa sw sE sd sk => ?_
    have h5 : sa.eval (.tmp 5) = .pointer (some ⟨w.heap.size, 0, none⟩) := sk.old 5 rfl
    exact Runs.load rfl h5 (load_man (hA1.ext sE)) ⟨Ext.refl _, rfl⟩
  · refine stepE rfl fun sdn sa sw sE sd sk => ?_
    have h1 : sa.eval (.tmp 1) = .int .i64 ((a : Int)) := sk.old 1 rfl
    exact Runs.move rfl h1 ⟨Ext.refl _, rfl⟩
  · refine stepE rfl fun sdn sa sw sE sd sk => ?_
    have h2 : sa.eval (.tmp 2) = .int .i64 ((v : Int)) := sk.old 2 rfl
    exact Runs.move rfl h2 ⟨Ext.refl _, rfl⟩
  · refine stepE rfl fun sdn sa sw sE sd sk => ?_
    have h3 : sa.eval (.tmp 3) = .int .i64 ((f : Int)) := sk.old 3 rfl
    exact Runs.move rfl h3 ⟨Ext.refl _, rfl⟩
  · refine stepE rfl fun sdn sa sw sE sd sk => ?_
    have h22 : sa.eval (.tmp 22) = .int .i64 ((a : Int)) := sk.fact 1 22 rfl (sd 1 rfl)
    have h23 : sa.eval (.tmp 23) = .int .i64 ((v : Int)) := sk.fact 2 23 rfl (sd 2 rfl)
    have h24 : sa.eval (.tmp 24) = .int .i64 ((f : Int)) := sk.fact 3 24 rfl (sd 3 rfl)
    refine Runs.call (f := 21) (vs := [.int .i64 ((a : Int)), .int .i64 ((v : Int)), .int .i64 ((f : Int))]) rfl rfl rfl (by simp only [List.map_toArray, List.map_cons, List.map_nil, h22, h23, h24] <;> rfl) (ent21 _ _) ((kman_any a v f sw ha0 ha1 hv0 hv1 hf0 hf1).mono ?_); rw [← Hk.out]; rintro e w' ⟨F', nf', cf', N', nn', cn', rfl, h1, h2, h3⟩; exact ⟨_, rfl, h3, F', nf', cf', N', nn', cn', rfl, h1, h2⟩
  · refine stepE rfl fun sdn sa sw sE sd sk => ?_
    have h21 : sa.eval (.tmp 21) = manV m F nf cf N nn cn := sk.fact 0 21 rfl (sd 0 rfl)
    obtain ⟨F25, nf25, cf25, N25, nn25, cn25, h25, rF25, rN25⟩ := sk.fact 4 25 rfl (sd 4 rfl)
    exact Runs.two rfl h21 h25 (fun w1 e1 b1 => ⟨e1, _, F25, nf25, cf25, N25, nn25, cn25, rfl, b1, rF25.ext e1, rN25.ext e1⟩)
  · refine stepE rfl fun sdn sa sw sE sd sk => ?_
    obtain ⟨g26, F26, nf26, cf26, N26, nn26, cn26, h26, hB26, rF26, rN26⟩ := sk.fact 5 26 rfl (sd 5 rfl)
    exact Runs.len Try.underlying36 rfl h26 ⟨Ext.refl _, rfl⟩
  · refine stepE rfl fun sdn sa sw sE sd sk => ?_
    exact Runs.move rfl rfl ⟨Ext.refl _, rfl⟩
  intro vals W1 hE hv
  have e0 : vals 0 = manV m F nf cf N nn cn := hv 0 (by omega) 21 rfl
  have e1 : vals 1 = .int .i64 ((a : Int)) := hv 1 (by omega) 22 rfl
  have e2 : vals 2 = .int .i64 ((v : Int)) := hv 2 (by omega) 23 rfl
  have e3 : vals 3 = .int .i64 ((f : Int)) := hv 3 (by omega) 24 rfl
  obtain ⟨F25, nf25, cf25, N25, nn25, cn25, e4, rF25, rN25⟩ := hv 4 (by omega) 25 rfl
  obtain ⟨g26, F26, nf26, cf26, N26, nn26, cn26, e5, hB26, rF26, rN26⟩ := hv 5 (by omega) 26 rfl
  have e6 : vals 6 = .int .i64 ((2 : Int)) := hv 6 (by omega) 27 rfl
  have e7 : vals 7 = .int .i64 ((0 : Int)) := hv 7 (by omega) 28 rfl
  simp only [putAll, Act.put, List.take_succ_cons, List.take_zero, List.drop_succ_cons, List.drop_zero, List.drop_nil, List.take_nil, Nat.reduceAdd, List.setIfInBounds_toArray, List.set_cons_succ, List.set_cons_zero, e0, e1, e2, e3, e4, e5, e6, e7]
  clear hv e0 e1 e2 e3 e4 e5 e6 e7
  unfold twoCells at hB26
  unfold manV
  go_wp2_with fail
  go_loopw [28] (fun i wr => ∃ j : Nat, j ≤ 2 ∧ i = .int .i64 j ∧ Ext W1 wr) (fun i _ => 2 - (intOf i).toNat)
  case atStart => exact ⟨0, by omega, rfl, Ext.refl _⟩
  case round =>
    obtain ⟨j, hj, rfl, hEr⟩ := hrel
    have hB9 := hB26.ext hEr
    have hEm := (hE1.trans hE).trans hEr
    have rFm := hF.ext hEm
    have rNm := hN.ext hEm
    have rFk := rF26.ext hEr
    have rNk := rN26.ext hEr
    have hcas : j = 0 ∨ j = 1 ∨ j = 2 := by omega
    rcases hcas with rfl | rfl | rfl
    · skip
      have y0 := hB9.cell (i := 0) rfl
      have y1 := hB9.cell (i := 1) rfl
      have y2 := hB9.cell (i := 2) rfl
      have y3 := hB9.cell (i := 3) rfl
      go_upto_region 4 with (fail)
      obtain ⟨w4, hw4⟩ : ∃ w4, w4 = wr.alloc (.cells #[.string (str m.name), .int .u32 (u32i m.ver), .slice F nf cf, .slice N nn cn] 27) := ⟨_, rfl⟩
      have hC4 : Blk w4 wr.heap.size 27 #[.string (str m.name), .int .u32 (u32i m.ver), .slice F nf cf, .slice N nn cn] := by rw [hw4]; exact Blk.new wr _ _
      have hE4 : Ext wr w4 := by rw [hw4]; exact Ext.new wr _
      rw [← hw4]
      clear hw4 y0 y1 y2 y3
      have rF4 := rFm.ext hE4
      have rN4 := rNm.ext hE4
      have y0 := hC4.cell (i := 0) rfl
      have y1 := hC4.cell (i := 1) rfl
      have y2 := hC4.cell (i := 2) rfl
      have y3 := hC4.cell (i := 3) rfl
      by_cases hri : rightM m = true
      · have Hri := Lib.hid hri
        clear hri
        go_wp2_with fail
        refine (menc_yes m F N nf cf nn cn w4 rF4 rN4 Hri.out).mono ?_
        rintro e w5 ⟨Y, ky, dy, rfl, ownY, hE5⟩
        clear y0 y1 y2 y3
        have hky : ky ≤ 140737488355328 := by
          have h1 := ownY.len
          rw [enc_length] at h1
          have h2 := right_is Hri.out
          have h3 := h2.1.2.1
          have h4 := h2.2.2.1
          have h5 := h2.2.2.2
          omega
        have rY := ownY.rb
        have hC5 := hC4.ext hE5
        have rF5 := rF4.ext hE5
        have rN5 := rN4.ext hE5
        go_wp2_with fail
        refine (mdec_any Y ky dy (encM m) w5 rY hky).mono ?_
        rintro e w6 ⟨h1, _, hE6⟩
        obtain ⟨FZ, nfZ, cfZ, NZ, nnZ, cnZ, rfl, rFZ, rNZ⟩ := h1 (dec_enc Hri.out)
        clear h1
        rw [dec_man Hri.out] at rFZ rNZ
        rw [dec_man Hri.out]
        unfold manV
        go_upto_region 7 with (fail)
        obtain ⟨w7, hw7⟩ : ∃ w7, w7 = w6.alloc (.cells #[.string (str m.name), .int .u32 (u32i m.ver), .slice FZ nfZ cfZ, .slice NZ nnZ cnZ] 27) := ⟨_, rfl⟩
        have hD7 : Blk w7 w6.heap.size 27 #[.string (str m.name), .int .u32 (u32i m.ver), .slice FZ nfZ cfZ, .slice NZ nnZ cnZ] := by rw [hw7]; exact Blk.new w6 _ _
        have hE7 : Ext w6 w7 := by rw [hw7]; exact Ext.new w6 _
        rw [← hw7]
        clear hw7
        have hC7 := (hC5.ext hE6).ext hE7
        have rF7 := (rF5.ext hE6).ext hE7
        have rN7 := (rN5.ext hE6).ext hE7
        have rFZ7 := rFZ.ext hE7
        have rNZ7 := rNZ.ext hE7
        have y0 := hC7.cell (i := 0) rfl
        have y1 := hC7.cell (i := 1) rfl
        have y2 := hC7.cell (i := 2) rfl
        have y3 := hC7.cell (i := 3) rfl
        have x0 := hD7.cell (i := 0) rfl
        have x1 := hD7.cell (i := 1) rfl
        have x2 := hD7.cell (i := 2) rfl
        have x3 := hD7.cell (i := 3) rfl
        have hsm : sameM m m = true := by simp [sameM]
        have Hsm := Lib.hid hsm
        clear hsm
        go_wp2_with fail
        refine (msame_any m m F N FZ NZ nf cf nn cn nfZ cfZ nnZ cnZ w7 rF7 rN7 rFZ7 rNZ7).mono ?_
        rintro e w8 ⟨rfl, hE8⟩
        rw [Hsm.out]
        clear y0 y1 y2 y3 x0 x1 x2 x3
        have hC8 := hC7.ext hE8
        have hD8 := hD7.ext hE8
        have y0 := hC8.cell (i := 0) rfl
        have y1 := hC8.cell (i := 1) rfl
        have y2 := hC8.cell (i := 2) rfl
        have y3 := hC8.cell (i := 3) rfl
        have x0 := hD8.cell (i := 0) rfl
        have x1 := hD8.cell (i := 1) rfl
        have x2 := hD8.cell (i := 2) rfl
        have x3 := hD8.cell (i := 3) rfl
        go_wp2_with fail
        refine (rsame_any m m F N FZ NZ nf cf nn cn nfZ cfZ nnZ cnZ w8 (rF7.ext hE8) (rN7.ext hE8) (rFZ7.ext hE8) (rNZ7.ext hE8)).mono ?_
        rintro e w9 ⟨rfl, hE9⟩
        rw [Hsm.out]
        go_wp2_with fail
        go_roundw
        case rel => exact ⟨1, by omega, by go_num, (((((hEr.trans hE4).trans hE5).trans hE6).trans hE7).trans hE8).trans hE9⟩
        case measure => simp [intOf]
      · have hri' : rightM m = false := by simpa using hri
        have Hri := Lib.hid hri'
        clear hri hri'
        go_wp2_with fail
        refine (menc_no m F N nf cf nn cn w4 (by unfold maxLen at hml; omega) rF4.len rN4.len Hri.out).mono ?_
        rintro e w5 ⟨rfl, hE5⟩
        go_wp2_with fail
        go_roundw
        case rel => exact ⟨1, by omega, by go_num, (hEr.trans hE4).trans hE5⟩
        case measure => simp [intOf]
    · skip
      have y0 := hB9.cell (i := 4) rfl
      have y1 := hB9.cell (i := 5) rfl
      have y2 := hB9.cell (i := 6) rfl
      have y3 := hB9.cell (i := 7) rfl
      go_upto_region 4 with (fail)
      obtain ⟨w4, hw4⟩ : ∃ w4, w4 = wr.alloc (.cells #[.string (str k.name), .int .u32 (u32i k.ver), .slice F26 nf26 cf26, .slice N26 nn26 cn26] 27) := ⟨_, rfl⟩
      have hC4 : Blk w4 wr.heap.size 27 #[.string (str k.name), .int .u32 (u32i k.ver), .slice F26 nf26 cf26, .slice N26 nn26 cn26] := by rw [hw4]; exact Blk.new wr _ _
      have hE4 : Ext wr w4 := by rw [hw4]; exact Ext.new wr _
      rw [← hw4]
      clear hw4 y0 y1 y2 y3
      have rF4 := rFk.ext hE4
      have rN4 := rNk.ext hE4
      have y0 := hC4.cell (i := 0) rfl
      have y1 := hC4.cell (i := 1) rfl
      have y2 := hC4.cell (i := 2) rfl
      have y3 := hC4.cell (i := 3) rfl
      by_cases hri : rightM k = true
      · have Hri := Lib.hid hri
        clear hri
        go_wp2_with fail
        refine (menc_yes k F26 N26 nf26 cf26 nn26 cn26 w4 rF4 rN4 Hri.out).mono ?_
        rintro e w5 ⟨Y, ky, dy, rfl, ownY, hE5⟩
        clear y0 y1 y2 y3
        have hky : ky ≤ 140737488355328 := by
          have h1 := ownY.len
          rw [enc_length] at h1
          have h2 := right_is Hri.out
          have h3 := h2.1.2.1
          have h4 := h2.2.2.1
          have h5 := h2.2.2.2
          omega
        have rY := ownY.rb
        have hC5 := hC4.ext hE5
        have rF5 := rF4.ext hE5
        have rN5 := rN4.ext hE5
        go_wp2_with fail
        refine (mdec_any Y ky dy (encM k) w5 rY hky).mono ?_
        rintro e w6 ⟨h1, _, hE6⟩
        obtain ⟨FZ, nfZ, cfZ, NZ, nnZ, cnZ, rfl, rFZ, rNZ⟩ := h1 (dec_enc Hri.out)
        clear h1
        rw [dec_man Hri.out] at rFZ rNZ
        rw [dec_man Hri.out]
        unfold manV
        go_upto_region 7 with (fail)
        obtain ⟨w7, hw7⟩ : ∃ w7, w7 = w6.alloc (.cells #[.string (str k.name), .int .u32 (u32i k.ver), .slice FZ nfZ cfZ, .slice NZ nnZ cnZ] 27) := ⟨_, rfl⟩
        have hD7 : Blk w7 w6.heap.size 27 #[.string (str k.name), .int .u32 (u32i k.ver), .slice FZ nfZ cfZ, .slice NZ nnZ cnZ] := by rw [hw7]; exact Blk.new w6 _ _
        have hE7 : Ext w6 w7 := by rw [hw7]; exact Ext.new w6 _
        rw [← hw7]
        clear hw7
        have hC7 := (hC5.ext hE6).ext hE7
        have rF7 := (rF5.ext hE6).ext hE7
        have rN7 := (rN5.ext hE6).ext hE7
        have rFZ7 := rFZ.ext hE7
        have rNZ7 := rNZ.ext hE7
        have y0 := hC7.cell (i := 0) rfl
        have y1 := hC7.cell (i := 1) rfl
        have y2 := hC7.cell (i := 2) rfl
        have y3 := hC7.cell (i := 3) rfl
        have x0 := hD7.cell (i := 0) rfl
        have x1 := hD7.cell (i := 1) rfl
        have x2 := hD7.cell (i := 2) rfl
        have x3 := hD7.cell (i := 3) rfl
        have hsm : sameM k k = true := by simp [sameM]
        have Hsm := Lib.hid hsm
        clear hsm
        go_wp2_with fail
        refine (msame_any k k F26 N26 FZ NZ nf26 cf26 nn26 cn26 nfZ cfZ nnZ cnZ w7 rF7 rN7 rFZ7 rNZ7).mono ?_
        rintro e w8 ⟨rfl, hE8⟩
        rw [Hsm.out]
        clear y0 y1 y2 y3 x0 x1 x2 x3
        have hC8 := hC7.ext hE8
        have hD8 := hD7.ext hE8
        have y0 := hC8.cell (i := 0) rfl
        have y1 := hC8.cell (i := 1) rfl
        have y2 := hC8.cell (i := 2) rfl
        have y3 := hC8.cell (i := 3) rfl
        have x0 := hD8.cell (i := 0) rfl
        have x1 := hD8.cell (i := 1) rfl
        have x2 := hD8.cell (i := 2) rfl
        have x3 := hD8.cell (i := 3) rfl
        go_wp2_with fail
        refine (rsame_any k k F26 N26 FZ NZ nf26 cf26 nn26 cn26 nfZ cfZ nnZ cnZ w8 (rF7.ext hE8) (rN7.ext hE8) (rFZ7.ext hE8) (rNZ7.ext hE8)).mono ?_
        rintro e w9 ⟨rfl, hE9⟩
        rw [Hsm.out]
        go_wp2_with fail
        go_roundw
        case rel => exact ⟨2, by omega, by go_num, (((((hEr.trans hE4).trans hE5).trans hE6).trans hE7).trans hE8).trans hE9⟩
        case measure => simp [intOf]
      · have hri' : rightM k = false := by simpa using hri
        have Hri := Lib.hid hri'
        clear hri hri'
        go_wp2_with fail
        refine (menc_no k F26 N26 nf26 cf26 nn26 cn26 w4 (Nat.le_trans (right_is Hkr.out).1.2.1 (by omega)) rF4.len rN4.len Hri.out).mono ?_
        rintro e w5 ⟨rfl, hE5⟩
        go_wp2_with fail
        go_roundw
        case rel => exact ⟨2, by omega, by go_num, (hEr.trans hE4).trans hE5⟩
        case measure => simp [intOf]
    · have rb9 := hb.ext hEm
      go_wp2_with fail
      refine (mdec_any B nb cb L wr rb9 hnb).mono ?_
      rintro e w6 ⟨h1, h2, hE6⟩
      by_cases hd : decOK L = true
      · obtain ⟨FZ, nfZ, cfZ, NZ, nnZ, cnZ, rfl, rFZ, rNZ⟩ := h1 hd
        clear h1 h2
        obtain ⟨hzr, hzb⟩ := dec_back hd
        generalize (readM L).man = z at *
        have Hzr := Lib.hid hzr
        have Hzb := Lib.hid hzb
        clear hzr hzb hd
        unfold manV
        go_upto_region 11 with (fail)
        obtain ⟨w7, hw7⟩ : ∃ w7, w7 = w6.alloc (.cells #[.string (str z.name), .int .u32 (u32i z.ver), .slice FZ nfZ cfZ, .slice NZ nnZ cnZ] 27) := ⟨_, rfl⟩
        have hD7 : Blk w7 w6.heap.size 27 #[.string (str z.name), .int .u32 (u32i z.ver), .slice FZ nfZ cfZ, .slice NZ nnZ cnZ] := by rw [hw7]; exact Blk.new w6 _ _
        have hE7 : Ext w6 w7 := by rw [hw7]; exact Ext.new w6 _
        rw [← hw7]
        clear hw7
        have y0 := hD7.cell (i := 0) rfl
        have y1 := hD7.cell (i := 1) rfl
        have y2 := hD7.cell (i := 2) rfl
        have y3 := hD7.cell (i := 3) rfl
        go_wp2_with fail
        refine (menc_yes z FZ NZ nfZ cfZ nnZ cnZ w7 (rFZ.ext hE7) (rNZ.ext hE7) Hzr.out).mono ?_
        rintro e w8 ⟨Y, ky, dy, rfl, ownY, hE8⟩
        rw [Hzb.out] at ownY
        have s1 := run_str ownY.rb
        have s2 := run_str (rb9.ext ((hE6.trans hE7).trans hE8))
        clear y0 y1 y2 y3
        go_wp2_with fail
        refine (known9_any w8).mono ?_
        rintro e w9 ⟨rfl, hE9⟩
        go_wp2_with fail
        go_ret
        exact ⟨rfl, hEm.trans (((hE6.trans hE7).trans hE8).trans hE9)⟩
      · have hd' : decOK L = false := by simpa using hd
        obtain rfl := h2 hd'
        clear h1 h2 hd hd'
        go_upto_region 11 with (fail)
        obtain ⟨w7, hw7⟩ : ∃ w7, w7 = w6.alloc (.cells #[.string ⟨#[]⟩, .int .u32 0, .slice none 0 0, .slice none 0 0] 27) := ⟨_, rfl⟩
        have hE7 : Ext w6 w7 := by rw [hw7]; exact Ext.new w6 _
        rw [← hw7]
        clear hw7
        go_wp2_with fail
        refine (known9_any w7).mono ?_
        rintro e w9 ⟨rfl, hE9⟩
        go_wp2_with fail
        go_ret
        exact ⟨rfl, hEm.trans ((hE6.trans hE7).trans hE9)⟩
end Go.Proofs.Ytmgnigofilkfmab

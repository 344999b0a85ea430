/-
  hash.keys and hash.spread, walked: the words of the rounds.
-/
import Derived.Test.YtkndgpjamijbbaaGreatLawNumbers22Q7
import Derived.DataElems
namespace Go.Proofs.YtkndgpjamijbbaaGreat
set_option maxRecDepth 100000
open Go Go.RowKit
/-- the bytes of a word that have come -/
def beP (M : List UInt8) : Nat → UInt32
  | 0 => 0
  | j + 1 => shl (beP M j) 8 ||| (ub M j).toUInt32
theorem shl_bv (x : UInt32) (n : Nat) : (shl x n).toBitVec = x.toBitVec <<< n := by
  apply BitVec.eq_of_toNat_eq
  rw [BitVec.toNat_shiftLeft, Nat.shiftLeft_eq]
  exact shl_toNat x n
theorem shl_or (x y : UInt32) (n : Nat) : shl (x ||| y) n = shl x n ||| shl y n := by
  apply UInt32.toBitVec_inj.1
  rw [UInt32.toBitVec_or, shl_bv, shl_bv, shl_bv, UInt32.toBitVec_or, BitVec.shiftLeft_or_distrib]
theorem shl_shl (x : UInt32) (m n : Nat) : shl (shl x m) n = shl x (m + n) := by
  apply UInt32.toBitVec_inj.1
  rw [shl_bv, shl_bv, shl_bv, BitVec.shiftLeft_add]
theorem zero_shl (n : Nat) : shl 0 n = 0 := by
  apply UInt32.toBitVec_inj.1
  rw [shl_bv]
  simp
theorem beP4 (L : List UInt8) (k : Nat) : beP (L.drop (4 * k)) 4 = beAt L k := by
  have e : ∀ j, ub (L.drop (4 * k)) j = ub L (4 * k + j) := fun j => by simp [ub]
  simp only [beP, beAt, be4, e, shl_or, shl_shl, zero_shl, Nat.add_zero, Nat.reduceAdd]
  rw [show (0 : UInt32) ||| shl (ub L (4 * k)).toUInt32 24 = shl (ub L (4 * k)).toUInt32 24 from by simp]
theorem fillW_zero (L : List UInt8) : ∀ k, k ≤ 16 → ∀ j, k ≤ j → uw (fillW L k) j = 0
  | 0, _, j, _ => by
    show (List.replicate 64 (0 : UInt32)).getD j 0 = 0
    rw [List.getD_eq_getElem?_getD, List.getElem?_replicate]
    split <;> rfl
  | k + 1, hk, j, hj => by
    have h1 : k < 16 := by omega
    simp only [fillW, h1, if_true]
    rw [uw_set_ne (by omega)]
    exact fillW_zero L k (by omega) j (by omega)
theorem set_uw {l : List UInt32} {k : Nat} (h : k < l.length) : l.set k (uw l k) = l := by
  have e : uw l k = l[k] := by simp [uw, h]
  rw [e, List.set_getElem_self]
theorem cell_drop {w w' : World} {ad : Addr} {L : List UInt8} {i j : Nat} (h : ∀ j, j < 64 → w.cell? (ad.add j) = some (.int .u8 (u8i (ub L j)))) (e : Ext w w') (hj : i + j < 64) : w'.cell? ((ad.add i).add j) = some (.int .u8 (u8i (ub (L.drop i) j))) := by
  rw [Addr.add_add, e.cell (h (i + j) hj)]
  simp [ub]
set_option maxHeartbeats 1000000 in
theorem keys_any (w : World) : Calls Tryz.prog 89 #[] w fun e w' => e = .returned (.agg (uv shaK)) ∧ Ext w w' := by
  go_enter Tryz.func89, Tryz.ntmps89
  go_upto_region 1 with (fail)
  refine wp_region_lit ?_
  refine pure_law (v := .agg (uv shaK)) rfl (by kernel_rfl) ?_
  refine strow_law (l' := shaK) rfl rfl rfl rfl (Arr.new w 101 (List.replicate 64 0)) row64_eq (row64_size.trans shaK_length.symm) (shaK_length.trans List.length_replicate.symm) ?_
  intro w' h1 h2 h3
  go_wp2_with fail
  refine bodyPost_ret (v := .agg (uv shaK)) ?_ rfl ⟨rfl, (Ext.new w _).then_grown h2 (by intro j hj; cases hj; exact Nat.le_refl _)⟩
  exact results_cell_row (fn := Tryz.f89) (p := 0) (ty := 101) rfl _ w' w.heap.size 101 (uv shaK) (0, 0) _ rfl h1 Tryz.underlying101 rfl (by rw [row64_eq, uv_size]; exact congrArg some row64_size)
set_option maxHeartbeats 2000000 in
theorem spread_any (c : Nat) (ad : Addr) (L : List UInt8) (w : World) (hcell : ∀ j, j < 64 → w.cell? (ad.add j) = some (.int .u8 (u8i (ub L j)))) (hc : 64 ≤ c) (hc' : c ≤ maxLen) :
    Calls Tryz.prog 102 #[.slice (some ad) 64 c] w fun e w' => e = .returned (.agg (uv (fillW L 64))) ∧ Ext w w' := by
  unfold maxLen at hc'
  go_enter Tryz.func102, Tryz.ntmps102
  go_upto_region 2 with (fail)
  have q2 : Arr ((w.alloc (.cells (uv (List.replicate 64 0)) 101)).alloc (.cells (uv (List.replicate 64 0)) 101)) w.heap.size 101 (List.replicate 64 0) := (Arr.new w 101 (List.replicate 64 0)).ext (Ext.new _ _)
  have q3 : Arr ((w.alloc (.cells (uv (List.replicate 64 0)) 101)).alloc (.cells (uv (List.replicate 64 0)) 101)) (w.heap.size + 1) 101 (fillW L 0) := by
    have h := Arr.new (w.alloc (.cells (uv (List.replicate 64 0)) 101)) 101 (List.replicate 64 0)
    rw [World.size_alloc] at h
    exact h
  refine genW (fun W => Arr W w.heap.size 101 (List.replicate 64 0) ∧ Arr W (w.heap.size + 1) 101 (fillW L 0) ∧ Ext w W) ⟨q2, q3, ((Ext.refl w).alloc _).alloc _⟩ ?_
  rintro W3 ⟨b2, b3, hE3⟩
  clear q2 q3
  go_wp2_with fail
  go_loopw [12] (fun i wr => ∃ k : Nat, k ≤ 16 ∧ i = .int .i64 k ∧ Arr wr w.heap.size 101 (List.replicate 64 0) ∧ Arr wr (w.heap.size + 1) 101 (fillW L k) ∧ Ext w wr) (fun i _ => 16 - (intOf i).toNat)
  case atStart => exact ⟨0, by omega, rfl, b2, b3, hE3⟩
  case round =>
    obtain ⟨k, hk16, rfl, c2, c3, hEr⟩ := hrel
    clear b2 b3 hE3
    by_cases hlt : k < 16
    · go_upto_region 5 with (fail)
      refine seq_ext (n := 9) (by kernel_rfl) [.is (.slice (some ad) (64) (c)), .is (.int .i64 ((k : Int))), .is (.int .i64 ((4 : Int) * (k : Int))), .is (.int .i64 ((k : Int))), .is (.int .i64 ((4 : Int) * (k : Int))), .is (.int .i64 (((4 : Int) * (k : Int)) + (4 : Int))), .is (.slice (if c = (4 * k) then some ad else (some ad).map (·.add ((4 * k) * 1))) (((4 * k) + 4) - (4 * k)) (c - (4 * k))), .is (.int .i64 ((((4 * k) + 4) - (4 * k) : Nat))), .is (.int .i64 ((0 : Int)))] rfl ⟨?_, ?_, ?_, ?_, ?_, ?_, ?_, ?_, ?_, trivial⟩ ?_
      · refine stepE rfl fun sdn sa sw sE sd sk => ?_
        have h0 : sa.eval (.tmp 0) = .slice (some ad) (64) (c) := sk.old 0 rfl
        exact Runs.move rfl h0 ⟨Ext.refl _, rfl⟩
      · refine stepE rfl fun sdn sa sw sE sd sk => ?_
        have h4 : sa.eval (.tmp 4) = .int .i64 ((k : Int)) := sk.old 4 rfl
        exact Runs.move rfl h4 ⟨Ext.refl _, rfl⟩
      · refine stepE rfl fun sdn sa sw sE sd sk => ?_
        have h16 : sa.eval (.tmp 16) = .int .i64 ((k : Int)) := sk.fact 1 16 rfl (sd 1 rfl)
        exact Runs.bin rfl rfl h16 (eqGuard_bin rfl) (bin_mul64 _ _ _ (by omega) (by omega)) ⟨Ext.refl _, rfl⟩
      · refine stepE rfl fun sdn sa sw sE sd sk => ?_
        have h4 : sa.eval (.tmp 4) = .int .i64 ((k : Int)) := sk.old 4 rfl
        exact Runs.move rfl h4 ⟨Ext.refl _, rfl⟩
      · refine stepE rfl fun sdn sa sw sE sd sk => ?_
        have h18 : sa.eval (.tmp 18) = .int .i64 ((k : Int)) := sk.fact 3 18 rfl (sd 3 rfl)
        exact Runs.bin rfl rfl h18 (eqGuard_bin rfl) (bin_mul64 _ _ _ (by omega) (by omega)) ⟨Ext.refl _, rfl⟩
      · refine stepE rfl fun sdn sa sw sE sd sk => ?_
        have h19 : sa.eval (.tmp 19) = .int .i64 ((4 : Int) * (k : Int)) := sk.fact 4 19 rfl (sd 4 rfl)
        exact Runs.bin rfl h19 rfl (eqGuard_bin rfl) (bin_add64 _ _ _ (by omega) (by omega)) ⟨Ext.refl _, rfl⟩
      · refine stepE rfl fun sdn sa sw sE sd sk => ?_
        have h15 : sa.eval (.tmp 15) = .slice (some ad) (64) (c) := sk.fact 0 15 rfl (sd 0 rfl)
        have h17 : sa.eval (.tmp 17) = .int .i64 ((4 : Int) * (k : Int)) := sk.fact 2 17 rfl (sd 2 rfl)
        have h20 : sa.eval (.tmp 20) = .int .i64 (((4 : Int) * (k : Int)) + (4 : Int)) := sk.fact 5 20 rfl (sd 5 rfl)
        exact Runs.slice rfl h15 (by simp only [Option.map_some, Option.map_none, h17, h20]; exact run_cut_lh Tryz.underlying26 inf26_eq inf26_size ((4 * k)) (((4 * k) + 4)) (by first | rfl | omega) (by first | rfl | omega) (by omega) (by omega)) ⟨Ext.refl _, rfl⟩
      · refine stepE rfl fun sdn sa sw sE sd sk => ?_
        have h21 : sa.eval (.tmp 21) = .slice (if c = (4 * k) then some ad else (some ad).map (·.add ((4 * k) * 1))) (((4 * k) + 4) - (4 * k)) (c - (4 * k)) := sk.fact 6 21 rfl (sd 6 rfl)
        exact Runs.len Tryz.underlying26 rfl h21 ⟨Ext.refl _, rfl⟩
      · refine stepE rfl fun sdn sa sw sE sd sk => ?_
        exact Runs.move rfl rfl ⟨Ext.refl _, rfl⟩
      ·
        intro vals W1 hE hv
        have e0 : vals 0 = .slice (some ad) (64) (c) := hv 0 (by omega) 15 rfl
        have e1 : vals 1 = .int .i64 ((k : Int)) := hv 1 (by omega) 16 rfl
        have e2 : vals 2 = .int .i64 ((4 : Int) * (k : Int)) := hv 2 (by omega) 17 rfl
        have e3 : vals 3 = .int .i64 ((k : Int)) := hv 3 (by omega) 18 rfl
        have e4 : vals 4 = .int .i64 ((4 : Int) * (k : Int)) := hv 4 (by omega) 19 rfl
        have e5 : vals 5 = .int .i64 (((4 : Int) * (k : Int)) + (4 : Int)) := hv 5 (by omega) 20 rfl
        have e6 : vals 6 = .slice (if c = (4 * k) then some ad else (some ad).map (·.add ((4 * k) * 1))) (((4 * k) + 4) - (4 * k)) (c - (4 * k)) := hv 6 (by omega) 21 rfl
        have e7 : vals 7 = .int .i64 ((((4 * k) + 4) - (4 * k) : Nat)) := hv 7 (by omega) 22 rfl
        have e8 : vals 8 = .int .i64 ((0 : Int)) := hv 8 (by omega) 23 rfl
        simp only [putAll, Act.put, List.take_succ_cons, List.take_zero, List.drop_succ_cons, List.drop_zero, List.drop_nil, List.take_nil, Nat.reduceAdd, List.setIfInBounds_toArray, List.set_cons_succ, List.set_cons_zero, e0, e1, e2, e3, e4, e5, e6, e7, e8]
        clear hv e0 e1 e2 e3 e4 e5 e6 e7 e8
        rw [if_neg (show ¬ c = 4 * k by omega), show 4 * k + 4 - 4 * k = 4 by omega, Option.map_some, Nat.mul_one]
        have d0 := c3.ext hE
        rw [← set_uw (l := fillW L k) (k := k) (by rw [fillW_length]; omega), fillW_zero L k hk16 k (Nat.le_refl _)] at d0
        have d2' := c2.ext hE
        have hE2' := hEr.trans hE
        clear c2 c3 hEr hE
        go_wp2_with fail
        go_loopw [23] (fun i wr => ∃ j : Nat, j ≤ 4 ∧ i = .int .i64 j ∧ Arr wr w.heap.size 101 (List.replicate 64 0) ∧ Arr wr (w.heap.size + 1) 101 ((fillW L k).set k (beP (L.drop (4 * k)) j)) ∧ Ext w wr) (fun i _ => 4 - (intOf i).toNat)
        case atStart => exact ⟨0, by omega, rfl, d2', d0, hE2'⟩
        case round =>
          clear d0 d2' hE2'
          obtain ⟨j, hj4, rfl, d2, d3, hEr2⟩ := hrel
          by_cases hlj : j < 4
          · go_upto_region 7 with (fail)
            refine seq_ext (n := 3) (by kernel_rfl) [.is (.pointer (some ((ad.add (4 * k)).add (j)))), .is (.int .u8 (u8i (ub (L.drop (4 * k)) (j)))), .is (.int .u8 (u8i (ub (L.drop (4 * k)) (j))))] rfl ⟨?_, ?_, ?_, trivial⟩ ?_
            · refine stepE rfl fun sdn sa sw sE sd sk => ?_
              have h21 : sa.eval (.tmp 21) = .slice (some (ad.add (4 * k))) (4) (c - 4 * k) := sk.old 21 rfl
              have h23 : sa.eval (.tmp 23) = .int .i64 ((j : Int)) := sk.old 23 rfl
              exact Runs.idx rfl h21 h23 (run_idx_sl1 Tryz.underlying26 inf26_eq inf26_size (j) (by omega) (by omega)) ⟨Ext.refl _, rfl⟩
            · refine stepE rfl fun sdn sa sw sE sd sk => ?_
              have h25 : sa.eval (.tmp 25) = .pointer (some ((ad.add (4 * k)).add (j))) := sk.fact 0 25 rfl (sd 0 rfl)
              exact Runs.load rfl h25 (run_load1 Tryz.underlying5 rfl (cell_drop hcell (hEr2.trans sE) (by omega))) ⟨Ext.refl _, rfl⟩
            · refine stepE rfl fun sdn sa sw sE sd sk => ?_
              have h26 : sa.eval (.tmp 26) = .int .u8 (u8i (ub (L.drop (4 * k)) (j))) := sk.fact 1 26 rfl (sd 1 rfl)
              exact Runs.assign rfl h26 ⟨Ext.refl _, rfl⟩
            ·
              intro vals W1 hE1 hv1
              have e0 : vals 0 = .pointer (some ((ad.add (4 * k)).add (j))) := hv1 0 (by omega) 25 rfl
              have e1 : vals 1 = .int .u8 (u8i (ub (L.drop (4 * k)) (j))) := hv1 1 (by omega) 26 rfl
              have e2 : vals 2 = .int .u8 (u8i (ub (L.drop (4 * k)) (j))) := hv1 2 (by omega) 6 rfl
              simp only [putAll, Act.put, List.take_succ_cons, List.take_zero, List.drop_succ_cons, List.drop_zero, List.drop_nil, List.take_nil, Nat.reduceAdd, List.setIfInBounds_toArray, List.set_cons_succ, List.set_cons_zero, e0, e1, e2]
              clear hv1 e0 e1 e2
              go_upto_region 8 with (fail)
              refine seq_ext (n := 9) (by kernel_rfl) [.is (.int .i64 ((k : Int))), .is (.int .i64 ((k : Int))), .is (.pointer (some ⟨w.heap.size + 1, k, none⟩)), .is (.int .u32 (u32i (uw ((fillW L k).set k (beP (L.drop (4 * k)) j)) k))), .is (.int .u32 (u32i (shl (uw ((fillW L k).set k (beP (L.drop (4 * k)) j)) k) 8))), .is (.int .u8 (u8i (ub (L.drop (4 * k)) j))), .is (.int .u32 (u32i (ub (L.drop (4 * k)) j).toUInt32)), .is (.int .u32 (u32i ((shl (uw ((fillW L k).set k (beP (L.drop (4 * k)) j)) k) 8) ||| (ub (L.drop (4 * k)) j).toUInt32))), .is (.pointer (some ⟨w.heap.size + 1, k, none⟩))] rfl ⟨?_, ?_, ?_, ?_, ?_, ?_, ?_, ?_, ?_, trivial⟩ ?_
              · refine stepE rfl fun sdn sa sw sE sd sk => ?_
                have h4 : sa.eval (.tmp 4) = .int .i64 ((k : Int)) := sk.old 4 rfl
                exact Runs.move rfl h4 ⟨Ext.refl _, rfl⟩
              · refine stepE rfl fun sdn sa sw sE sd sk => ?_
                have h4 : sa.eval (.tmp 4) = .int .i64 ((k : Int)) := sk.old 4 rfl
                exact Runs.move rfl h4 ⟨Ext.refl _, rfl⟩
              · refine stepE rfl fun sdn sa sw sE sd sk => ?_
                have h3 : sa.eval (.tmp 3) = .pointer (some ⟨w.heap.size + 1, 0, none⟩) := sk.old 3 rfl
                have h28 : sa.eval (.tmp 28) = .int .i64 ((k : Int)) := sk.fact 1 28 rfl (sd 1 rfl)
                exact Runs.idx rfl h3 h28 (run_idx_arr1 Tryz.underlying101 inf101_eq inf101_size (k) (by omega) (by omega)) ⟨Ext.refl _, rfl⟩
              · refine stepE rfl fun sdn sa sw sE sd sk => ?_
                have h29 : sa.eval (.tmp 29) = .pointer (some ⟨w.heap.size + 1, k, none⟩) := sk.fact 2 29 rfl (sd 2 rfl)
                exact Runs.load rfl h29 (run_load1 Tryz.underlying56 rfl (((d3.ext hE1).ext sE).cell (by rw [List.length_set, fillW_length]; omega))) ⟨Ext.refl _, rfl⟩
              · refine stepE rfl fun sdn sa sw sE sd sk => ?_
                have h30 : sa.eval (.tmp 30) = .int .u32 (u32i (uw ((fillW L k).set k (beP (L.drop (4 * k)) j)) k)) := sk.fact 3 30 rfl (sd 3 rfl)
                exact Runs.bin rfl h30 rfl (eqGuard_bin rfl) (bin_shl32 _ _ 8 _) ⟨Ext.refl _, rfl⟩
              · refine stepE rfl fun sdn sa sw sE sd sk => ?_
                have h6 : sa.eval (.tmp 6) = .int .u8 (u8i (ub (L.drop (4 * k)) j)) := sk.old 6 rfl
                exact Runs.move rfl h6 ⟨Ext.refl _, rfl⟩
              · refine stepE rfl fun sdn sa sw sE sd sk => ?_
                have h32 : sa.eval (.tmp 32) = .int .u8 (u8i (ub (L.drop (4 * k)) j)) := sk.fact 5 32 rfl (sd 5 rfl)
                exact Runs.conv rfl h32 (conv_u8_u32 Tryz.underlying5 Tryz.underlying56 _) ⟨Ext.refl _, rfl⟩
              · refine stepE rfl fun sdn sa sw sE sd sk => ?_
                have h31 : sa.eval (.tmp 31) = .int .u32 (u32i (shl (uw ((fillW L k).set k (beP (L.drop (4 * k)) j)) k) 8)) := sk.fact 4 31 rfl (sd 4 rfl)
                have h33 : sa.eval (.tmp 33) = .int .u32 (u32i (ub (L.drop (4 * k)) j).toUInt32) := sk.fact 6 33 rfl (sd 6 rfl)
                exact Runs.bin rfl h31 h33 (eqGuard_bin rfl) (bin_or32 _ _ _) ⟨Ext.refl _, rfl⟩
              · refine stepE rfl fun sdn sa sw sE sd sk => ?_
                have h3 : sa.eval (.tmp 3) = .pointer (some ⟨w.heap.size + 1, 0, none⟩) := sk.old 3 rfl
                have h27 : sa.eval (.tmp 27) = .int .i64 ((k : Int)) := sk.fact 0 27 rfl (sd 0 rfl)
                exact Runs.idx rfl h3 h27 (run_idx_arr1 Tryz.underlying101 inf101_eq inf101_size (k) (by omega) (by omega)) ⟨Ext.refl _, rfl⟩
              ·
                intro vals W2 hE2 hv2
                have e0 : vals 0 = .int .i64 ((k : Int)) := hv2 0 (by omega) 27 rfl
                have e1 : vals 1 = .int .i64 ((k : Int)) := hv2 1 (by omega) 28 rfl
                have e2 : vals 2 = .pointer (some ⟨w.heap.size + 1, k, none⟩) := hv2 2 (by omega) 29 rfl
                have e3 : vals 3 = .int .u32 (u32i (uw ((fillW L k).set k (beP (L.drop (4 * k)) j)) k)) := hv2 3 (by omega) 30 rfl
                have e4 : vals 4 = .int .u32 (u32i (shl (uw ((fillW L k).set k (beP (L.drop (4 * k)) j)) k) 8)) := hv2 4 (by omega) 31 rfl
                have e5 : vals 5 = .int .u8 (u8i (ub (L.drop (4 * k)) j)) := hv2 5 (by omega) 32 rfl
                have e6 : vals 6 = .int .u32 (u32i (ub (L.drop (4 * k)) j).toUInt32) := hv2 6 (by omega) 33 rfl
                have e7 : vals 7 = .int .u32 (u32i ((shl (uw ((fillW L k).set k (beP (L.drop (4 * k)) j)) k) 8) ||| (ub (L.drop (4 * k)) j).toUInt32)) := hv2 7 (by omega) 34 rfl
                have e8 : vals 8 = .pointer (some ⟨w.heap.size + 1, k, none⟩) := hv2 8 (by omega) 35 rfl
                simp only [putAll, Act.put, List.take_succ_cons, List.take_zero, List.drop_succ_cons, List.drop_zero, List.drop_nil, List.take_nil, Nat.reduceAdd, List.setIfInBounds_toArray, List.set_cons_succ, List.set_cons_zero, e0, e1, e2, e3, e4, e5, e6, e7, e8]
                clear hv2 e0 e1 e2 e3 e4 e5 e6 e7 e8
                have hEE := hE1.trans hE2
                have y1 := (d3.ext hEE).cell (i := k) (by rw [List.length_set, fillW_length]; omega)
                have y2 := (d3.ext hEE).frozen k
                go_wp2_with fail
                go_roundw
                case rel =>
                  refine ⟨j + 1, by omega, by go_num, (d2.ext hEE).far (by dsimp only; omega) _, ?_, (hEr2.trans hEE).set (by dsimp only; omega) _⟩
                  have y3 := (d3.ext hEE).set k (beP (L.drop (4 * k)) (j + 1))
                  rw [List.set_set] at y3
                  rw [uw_set_eq (by rw [fillW_length]; omega)]
                  exact y3
                case measure => simp [intOf]; omega
          · obtain rfl : j = 4 := by omega
            rw [beP4] at d3
            go_wp2_with fail
            go_roundw
            case rel =>
              refine ⟨k + 1, by omega, by go_num, d2, ?_, hEr2⟩
              simp only [fillW, hlt, if_true]
              exact d3
            case measure => simp [intOf]; omega
    · obtain rfl : k = 16 := by omega
      clear hlt hk16
      go_wp2_with fail
      go_loopw [7] (fun i wr => ∃ k : Nat, 16 ≤ k ∧ k ≤ 64 ∧ i = .int .i64 k ∧ Arr wr w.heap.size 101 (List.replicate 64 0) ∧ Arr wr (w.heap.size + 1) 101 (fillW L k) ∧ Ext w wr) (fun i _ => 64 - (intOf i).toNat)
      case atStart => exact ⟨16, by omega, by omega, rfl, c2, c3, hEr⟩
      case round =>
        clear c2 c3 hEr
        obtain ⟨k, hk16, hk64, rfl, c2, c3, hEr⟩ := hrel
        by_cases hlt : k < 64
        · go_upto_region 14 with (fail)
          refine par_ext (n := 10) (by kernel_rfl) [.is (.int .i64 ((k : Int))), .is (.int .i64 ((k : Int) - (15 : Int))), .is (.pointer (some ⟨w.heap.size + 1, (k - 15), none⟩)), .is (.int .u32 (u32i (uw (fillW L k) (k - 15)))), .is (.int .i64 ((k : Int))), .is (.int .i64 ((k : Int) - (2 : Int))), .is (.pointer (some ⟨w.heap.size + 1, (k - 2), none⟩)), .is (.int .u32 (u32i (uw (fillW L k) (k - 2)))), .is (.int .u32 (u32i (uw (fillW L k) (k - 15)))), .is (.int .u32 (u32i (uw (fillW L k) (k - 2))))] rfl ⟨?_, ?_, ?_, ?_, ?_, ?_, ?_, ?_, ?_, ?_, trivial⟩ ?_
          · refine stepE rfl fun sdn sa sw sE sd sk => ?_
            have h7 : sa.eval (.tmp 7) = .int .i64 ((k : Int)) := sk.old 7 rfl
            exact Runs.move rfl h7 ⟨Ext.refl _, rfl⟩
          · refine stepE rfl fun sdn sa sw sE sd sk => ?_
            have h42 : sa.eval (.tmp 42) = .int .i64 ((k : Int)) := sk.fact 0 42 rfl (sd 0 rfl)
            exact Runs.bin rfl h42 rfl (eqGuard_bin rfl) (bin_sub64 _ _ _ (by omega) (by omega)) ⟨Ext.refl _, rfl⟩
          · refine stepE rfl fun sdn sa sw sE sd sk => ?_
            have h3 : sa.eval (.tmp 3) = .pointer (some ⟨w.heap.size + 1, 0, none⟩) := sk.old 3 rfl
            have h43 : sa.eval (.tmp 43) = .int .i64 ((k : Int) - (15 : Int)) := sk.fact 1 43 rfl (sd 1 rfl)
            exact Runs.idx rfl h3 h43 (run_idx_arr1 Tryz.underlying101 inf101_eq inf101_size ((k - 15)) (by omega) (by omega)) ⟨Ext.refl _, rfl⟩
          · refine stepE rfl fun sdn sa sw sE sd sk => ?_
            have h44 : sa.eval (.tmp 44) = .pointer (some ⟨w.heap.size + 1, (k - 15), none⟩) := sk.fact 2 44 rfl (sd 2 rfl)
            exact Runs.load rfl h44 (run_load1 Tryz.underlying56 rfl ((c3.ext sE).cell (by rw [fillW_length]; omega))) ⟨Ext.refl _, rfl⟩
          · refine stepE rfl fun sdn sa sw sE sd sk => ?_
            have h7 : sa.eval (.tmp 7) = .int .i64 ((k : Int)) := sk.old 7 rfl
            exact Runs.move rfl h7 ⟨Ext.refl _, rfl⟩
          · refine stepE rfl fun sdn sa sw sE sd sk => ?_
            have h46 : sa.eval (.tmp 46) = .int .i64 ((k : Int)) := sk.fact 4 46 rfl (sd 4 rfl)
            exact Runs.bin rfl h46 rfl (eqGuard_bin rfl) (bin_sub64 _ _ _ (by omega) (by omega)) ⟨Ext.refl _, rfl⟩
          · refine stepE rfl fun sdn sa sw sE sd sk => ?_
            have h3 : sa.eval (.tmp 3) = .pointer (some ⟨w.heap.size + 1, 0, none⟩) := sk.old 3 rfl
            have h47 : sa.eval (.tmp 47) = .int .i64 ((k : Int) - (2 : Int)) := sk.fact 5 47 rfl (sd 5 rfl)
            exact Runs.idx rfl h3 h47 (run_idx_arr1 Tryz.underlying101 inf101_eq inf101_size ((k - 2)) (by omega) (by omega)) ⟨Ext.refl _, rfl⟩
          · refine stepE rfl fun sdn sa sw sE sd sk => ?_
            have h48 : sa.eval (.tmp 48) = .pointer (some ⟨w.heap.size + 1, (k - 2), none⟩) := sk.fact 6 48 rfl (sd 6 rfl)
            exact Runs.load rfl h48 (run_load1 Tryz.underlying56 rfl ((c3.ext sE).cell (by rw [fillW_length]; omega))) ⟨Ext.refl _, rfl⟩
          · refine stepE rfl fun sdn sa sw sE sd sk => ?_
            have h45 : sa.eval (.tmp 45) = .int .u32 (u32i (uw (fillW L k) (k - 15))) := sk.fact 3 45 rfl (sd 3 rfl)
            exact Runs.assign rfl h45 ⟨Ext.refl _, rfl⟩
          · refine stepE rfl fun sdn sa sw sE sd sk => ?_
            have h49 : sa.eval (.tmp 49) = .int .u32 (u32i (uw (fillW L k) (k - 2))) := sk.fact 7 49 rfl (sd 7 rfl)
            exact Runs.assign rfl h49 ⟨Ext.refl _, rfl⟩
          ·
            intro vals W1 hE1 hv1
            have e0 : vals 0 = .int .i64 ((k : Int)) := hv1 0 (by omega) 42 rfl
            have e1 : vals 1 = .int .i64 ((k : Int) - (15 : Int)) := hv1 1 (by omega) 43 rfl
            have e2 : vals 2 = .pointer (some ⟨w.heap.size + 1, (k - 15), none⟩) := hv1 2 (by omega) 44 rfl
            have e3 : vals 3 = .int .u32 (u32i (uw (fillW L k) (k - 15))) := hv1 3 (by omega) 45 rfl
            have e4 : vals 4 = .int .i64 ((k : Int)) := hv1 4 (by omega) 46 rfl
            have e5 : vals 5 = .int .i64 ((k : Int) - (2 : Int)) := hv1 5 (by omega) 47 rfl
            have e6 : vals 6 = .pointer (some ⟨w.heap.size + 1, (k - 2), none⟩) := hv1 6 (by omega) 48 rfl
            have e7 : vals 7 = .int .u32 (u32i (uw (fillW L k) (k - 2))) := hv1 7 (by omega) 49 rfl
            have e8 : vals 8 = .int .u32 (u32i (uw (fillW L k) (k - 15))) := hv1 8 (by omega) 8 rfl
            have e9 : vals 9 = .int .u32 (u32i (uw (fillW L k) (k - 2))) := hv1 9 (by omega) 9 rfl
            simp only [putAll, Act.put, List.take_succ_cons, List.take_zero, List.drop_succ_cons, List.drop_zero, List.drop_nil, List.take_nil, Nat.reduceAdd, List.setIfInBounds_toArray, List.set_cons_succ, List.set_cons_zero, e0, e1, e2, e3, e4, e5, e6, e7, e8, e9]
            clear hv1 e0 e1 e2 e3 e4 e5 e6 e7 e8 e9
            go_upto_region 15 with (fail)
            refine seq_ext (n := 9) (by kernel_rfl) [.is (.int .u32 (u32i (uw (fillW L k) (k - 15)))), .is (.int .u32 (u32i (rotr (uw (fillW L k) (k - 15)) 7))), .is (.int .u32 (u32i (uw (fillW L k) (k - 15)))), .is (.int .u32 (u32i (rotr (uw (fillW L k) (k - 15)) 18))), .is (.int .u32 (u32i ((rotr (uw (fillW L k) (k - 15)) 7) ^^^ (rotr (uw (fillW L k) (k - 15)) 18)))), .is (.int .u32 (u32i (uw (fillW L k) (k - 15)))), .is (.int .u32 (u32i (shr (uw (fillW L k) (k - 15)) 3))), .is (.int .u32 (u32i (((rotr (uw (fillW L k) (k - 15)) 7) ^^^ (rotr (uw (fillW L k) (k - 15)) 18)) ^^^ (shr (uw (fillW L k) (k - 15)) 3)))), .is (.int .u32 (u32i (((rotr (uw (fillW L k) (k - 15)) 7) ^^^ (rotr (uw (fillW L k) (k - 15)) 18)) ^^^ (shr (uw (fillW L k) (k - 15)) 3))))] rfl ⟨?_, ?_, ?_, ?_, ?_, ?_, ?_, ?_, ?_, trivial⟩ ?_
            · refine stepE rfl fun sdn sa sw sE sd sk => ?_
              have h8 : sa.eval (.tmp 8) = .int .u32 (u32i (uw (fillW L k) (k - 15))) := sk.old 8 rfl
              exact Runs.move rfl h8 ⟨Ext.refl _, rfl⟩
            · refine stepE rfl fun sdn sa sw sE sd sk => ?_
              have h50 : sa.eval (.tmp 50) = .int .u32 (u32i (uw (fillW L k) (k - 15))) := sk.fact 0 50 rfl (sd 0 rfl)
              refine Runs.call (f := 103) (vs := [.int .u32 (u32i (uw (fillW L k) (k - 15))), .int .i64 ((7 : Int))]) rfl rfl rfl (by simp only [List.map_toArray, List.map_cons, List.map_nil, h50] <;> rfl) (ent103 _ _) ((right7_any (uw (fillW L k) (k - 15)) sw).mono ?_); rintro e w' ⟨rfl, hx⟩; exact ⟨_, rfl, hx, rfl⟩
            · refine stepE rfl fun sdn sa sw sE sd sk => ?_
              have h8 : sa.eval (.tmp 8) = .int .u32 (u32i (uw (fillW L k) (k - 15))) := sk.old 8 rfl
              exact Runs.move rfl h8 ⟨Ext.refl _, rfl⟩
            · refine stepE rfl fun sdn sa sw sE sd sk => ?_
              have h52 : sa.eval (.tmp 52) = .int .u32 (u32i (uw (fillW L k) (k - 15))) := sk.fact 2 52 rfl (sd 2 rfl)
              refine Runs.call (f := 103) (vs := [.int .u32 (u32i (uw (fillW L k) (k - 15))), .int .i64 ((18 : Int))]) rfl rfl rfl (by simp only [List.map_toArray, List.map_cons, List.map_nil, h52] <;> rfl) (ent103 _ _) ((right18_any (uw (fillW L k) (k - 15)) sw).mono ?_); rintro e w' ⟨rfl, hx⟩; exact ⟨_, rfl, hx, rfl⟩
            · refine stepE rfl fun sdn sa sw sE sd sk => ?_
              have h51 : sa.eval (.tmp 51) = .int .u32 (u32i (rotr (uw (fillW L k) (k - 15)) 7)) := sk.fact 1 51 rfl (sd 1 rfl)
              have h53 : sa.eval (.tmp 53) = .int .u32 (u32i (rotr (uw (fillW L k) (k - 15)) 18)) := sk.fact 3 53 rfl (sd 3 rfl)
              exact Runs.bin rfl h51 h53 (eqGuard_bin rfl) (bin_xor32 _ _ _) ⟨Ext.refl _, rfl⟩
            · refine stepE rfl fun sdn sa sw sE sd sk => ?_
              have h8 : sa.eval (.tmp 8) = .int .u32 (u32i (uw (fillW L k) (k - 15))) := sk.old 8 rfl
              exact Runs.move rfl h8 ⟨Ext.refl _, rfl⟩
            · refine stepE rfl fun sdn sa sw sE sd sk => ?_
              have h55 : sa.eval (.tmp 55) = .int .u32 (u32i (uw (fillW L k) (k - 15))) := sk.fact 5 55 rfl (sd 5 rfl)
              exact Runs.bin rfl h55 rfl (eqGuard_bin rfl) (bin_shr32 _ _ 3 _) ⟨Ext.refl _, rfl⟩
            · refine stepE rfl fun sdn sa sw sE sd sk => ?_
              have h54 : sa.eval (.tmp 54) = .int .u32 (u32i ((rotr (uw (fillW L k) (k - 15)) 7) ^^^ (rotr (uw (fillW L k) (k - 15)) 18))) := sk.fact 4 54 rfl (sd 4 rfl)
              have h56 : sa.eval (.tmp 56) = .int .u32 (u32i (shr (uw (fillW L k) (k - 15)) 3)) := sk.fact 6 56 rfl (sd 6 rfl)
              exact Runs.bin rfl h54 h56 (eqGuard_bin rfl) (bin_xor32 _ _ _) ⟨Ext.refl _, rfl⟩
            · refine stepE rfl fun sdn sa sw sE sd sk => ?_
              have h57 : sa.eval (.tmp 57) = .int .u32 (u32i (((rotr (uw (fillW L k) (k - 15)) 7) ^^^ (rotr (uw (fillW L k) (k - 15)) 18)) ^^^ (shr (uw (fillW L k) (k - 15)) 3))) := sk.fact 7 57 rfl (sd 7 rfl)
              exact Runs.assign rfl h57 ⟨Ext.refl _, rfl⟩
            ·
              intro vals W2 hE2 hv2
              have e0 : vals 0 = .int .u32 (u32i (uw (fillW L k) (k - 15))) := hv2 0 (by omega) 50 rfl
              have e1 : vals 1 = .int .u32 (u32i (rotr (uw (fillW L k) (k - 15)) 7)) := hv2 1 (by omega) 51 rfl
              have e2 : vals 2 = .int .u32 (u32i (uw (fillW L k) (k - 15))) := hv2 2 (by omega) 52 rfl
              have e3 : vals 3 = .int .u32 (u32i (rotr (uw (fillW L k) (k - 15)) 18)) := hv2 3 (by omega) 53 rfl
              have e4 : vals 4 = .int .u32 (u32i ((rotr (uw (fillW L k) (k - 15)) 7) ^^^ (rotr (uw (fillW L k) (k - 15)) 18))) := hv2 4 (by omega) 54 rfl
              have e5 : vals 5 = .int .u32 (u32i (uw (fillW L k) (k - 15))) := hv2 5 (by omega) 55 rfl
              have e6 : vals 6 = .int .u32 (u32i (shr (uw (fillW L k) (k - 15)) 3)) := hv2 6 (by omega) 56 rfl
              have e7 : vals 7 = .int .u32 (u32i (((rotr (uw (fillW L k) (k - 15)) 7) ^^^ (rotr (uw (fillW L k) (k - 15)) 18)) ^^^ (shr (uw (fillW L k) (k - 15)) 3))) := hv2 7 (by omega) 57 rfl
              have e8 : vals 8 = .int .u32 (u32i (((rotr (uw (fillW L k) (k - 15)) 7) ^^^ (rotr (uw (fillW L k) (k - 15)) 18)) ^^^ (shr (uw (fillW L k) (k - 15)) 3))) := hv2 8 (by omega) 10 rfl
              simp only [putAll, Act.put, List.take_succ_cons, List.take_zero, List.drop_succ_cons, List.drop_zero, List.drop_nil, List.take_nil, Nat.reduceAdd, List.setIfInBounds_toArray, List.set_cons_succ, List.set_cons_zero, e0, e1, e2, e3, e4, e5, e6, e7, e8]
              clear hv2 e0 e1 e2 e3 e4 e5 e6 e7 e8
              go_upto_region 16 with (fail)
              refine seq_ext (n := 9) (by kernel_rfl) [.is (.int .u32 (u32i (uw (fillW L k) (k - 2)))), .is (.int .u32 (u32i (rotr (uw (fillW L k) (k - 2)) 17))), .is (.int .u32 (u32i (uw (fillW L k) (k - 2)))), .is (.int .u32 (u32i (rotr (uw (fillW L k) (k - 2)) 19))), .is (.int .u32 (u32i ((rotr (uw (fillW L k) (k - 2)) 17) ^^^ (rotr (uw (fillW L k) (k - 2)) 19)))), .is (.int .u32 (u32i (uw (fillW L k) (k - 2)))), .is (.int .u32 (u32i (shr (uw (fillW L k) (k - 2)) 10))), .is (.int .u32 (u32i (((rotr (uw (fillW L k) (k - 2)) 17) ^^^ (rotr (uw (fillW L k) (k - 2)) 19)) ^^^ (shr (uw (fillW L k) (k - 2)) 10)))), .is (.int .u32 (u32i (((rotr (uw (fillW L k) (k - 2)) 17) ^^^ (rotr (uw (fillW L k) (k - 2)) 19)) ^^^ (shr (uw (fillW L k) (k - 2)) 10))))] rfl ⟨?_, ?_, ?_, ?_, ?_, ?_, ?_, ?_, ?_, trivial⟩ ?_
              · refine stepE rfl fun sdn sa sw sE sd sk => ?_
                have h9 : sa.eval (.tmp 9) = .int .u32 (u32i (uw (fillW L k) (k - 2))) := sk.old 9 rfl
                exact Runs.move rfl h9 ⟨Ext.refl _, rfl⟩
              · refine stepE rfl fun sdn sa sw sE sd sk => ?_
                have h58 : sa.eval (.tmp 58) = .int .u32 (u32i (uw (fillW L k) (k - 2))) := sk.fact 0 58 rfl (sd 0 rfl)
                refine Runs.call (f := 103) (vs := [.int .u32 (u32i (uw (fillW L k) (k - 2))), .int .i64 ((17 : Int))]) rfl rfl rfl (by simp only [List.map_toArray, List.map_cons, List.map_nil, h58] <;> rfl) (ent103 _ _) ((right17_any (uw (fillW L k) (k - 2)) sw).mono ?_); rintro e w' ⟨rfl, hx⟩; exact ⟨_, rfl, hx, rfl⟩
              · refine stepE rfl fun sdn sa sw sE sd sk => ?_
                have h9 : sa.eval (.tmp 9) = .int .u32 (u32i (uw (fillW L k) (k - 2))) := sk.old 9 rfl
                exact Runs.move rfl h9 ⟨Ext.refl _, rfl⟩
              · refine stepE rfl fun sdn sa sw sE sd sk => ?_
                have h60 : sa.eval (.tmp 60) = .int .u32 (u32i (uw (fillW L k) (k - 2))) := sk.fact 2 60 rfl (sd 2 rfl)
                refine Runs.call (f := 103) (vs := [.int .u32 (u32i (uw (fillW L k) (k - 2))), .int .i64 ((19 : Int))]) rfl rfl rfl (by simp only [List.map_toArray, List.map_cons, List.map_nil, h60] <;> rfl) (ent103 _ _) ((right19_any (uw (fillW L k) (k - 2)) sw).mono ?_); rintro e w' ⟨rfl, hx⟩; exact ⟨_, rfl, hx, rfl⟩
              · refine stepE rfl fun sdn sa sw sE sd sk => ?_
                have h59 : sa.eval (.tmp 59) = .int .u32 (u32i (rotr (uw (fillW L k) (k - 2)) 17)) := sk.fact 1 59 rfl (sd 1 rfl)
                have h61 : sa.eval (.tmp 61) = .int .u32 (u32i (rotr (uw (fillW L k) (k - 2)) 19)) := sk.fact 3 61 rfl (sd 3 rfl)
                exact Runs.bin rfl h59 h61 (eqGuard_bin rfl) (bin_xor32 _ _ _) ⟨Ext.refl _, rfl⟩
              · refine stepE rfl fun sdn sa sw sE sd sk => ?_
                have h9 : sa.eval (.tmp 9) = .int .u32 (u32i (uw (fillW L k) (k - 2))) := sk.old 9 rfl
                exact Runs.move rfl h9 ⟨Ext.refl _, rfl⟩
              · refine stepE rfl fun sdn sa sw sE sd sk => ?_
                have h63 : sa.eval (.tmp 63) = .int .u32 (u32i (uw (fillW L k) (k - 2))) := sk.fact 5 63 rfl (sd 5 rfl)
                exact Runs.bin rfl h63 rfl (eqGuard_bin rfl) (bin_shr32 _ _ 10 _) ⟨Ext.refl _, rfl⟩
              · refine stepE rfl fun sdn sa sw sE sd sk => ?_
                have h62 : sa.eval (.tmp 62) = .int .u32 (u32i ((rotr (uw (fillW L k) (k - 2)) 17) ^^^ (rotr (uw (fillW L k) (k - 2)) 19))) := sk.fact 4 62 rfl (sd 4 rfl)
                have h64 : sa.eval (.tmp 64) = .int .u32 (u32i (shr (uw (fillW L k) (k - 2)) 10)) := sk.fact 6 64 rfl (sd 6 rfl)
                exact Runs.bin rfl h62 h64 (eqGuard_bin rfl) (bin_xor32 _ _ _) ⟨Ext.refl _, rfl⟩
              · refine stepE rfl fun sdn sa sw sE sd sk => ?_
                have h65 : sa.eval (.tmp 65) = .int .u32 (u32i (((rotr (uw (fillW L k) (k - 2)) 17) ^^^ (rotr (uw (fillW L k) (k - 2)) 19)) ^^^ (shr (uw (fillW L k) (k - 2)) 10))) := sk.fact 7 65 rfl (sd 7 rfl)
                exact Runs.assign rfl h65 ⟨Ext.refl _, rfl⟩
              ·
                intro vals W5 hE3 hv3
                have e0 : vals 0 = .int .u32 (u32i (uw (fillW L k) (k - 2))) := hv3 0 (by omega) 58 rfl
                have e1 : vals 1 = .int .u32 (u32i (rotr (uw (fillW L k) (k - 2)) 17)) := hv3 1 (by omega) 59 rfl
                have e2 : vals 2 = .int .u32 (u32i (uw (fillW L k) (k - 2))) := hv3 2 (by omega) 60 rfl
                have e3 : vals 3 = .int .u32 (u32i (rotr (uw (fillW L k) (k - 2)) 19)) := hv3 3 (by omega) 61 rfl
                have e4 : vals 4 = .int .u32 (u32i ((rotr (uw (fillW L k) (k - 2)) 17) ^^^ (rotr (uw (fillW L k) (k - 2)) 19))) := hv3 4 (by omega) 62 rfl
                have e5 : vals 5 = .int .u32 (u32i (uw (fillW L k) (k - 2))) := hv3 5 (by omega) 63 rfl
                have e6 : vals 6 = .int .u32 (u32i (shr (uw (fillW L k) (k - 2)) 10)) := hv3 6 (by omega) 64 rfl
                have e7 : vals 7 = .int .u32 (u32i (((rotr (uw (fillW L k) (k - 2)) 17) ^^^ (rotr (uw (fillW L k) (k - 2)) 19)) ^^^ (shr (uw (fillW L k) (k - 2)) 10))) := hv3 7 (by omega) 65 rfl
                have e8 : vals 8 = .int .u32 (u32i (((rotr (uw (fillW L k) (k - 2)) 17) ^^^ (rotr (uw (fillW L k) (k - 2)) 19)) ^^^ (shr (uw (fillW L k) (k - 2)) 10))) := hv3 8 (by omega) 11 rfl
                simp only [putAll, Act.put, List.take_succ_cons, List.take_zero, List.drop_succ_cons, List.drop_zero, List.drop_nil, List.take_nil, Nat.reduceAdd, List.setIfInBounds_toArray, List.set_cons_succ, List.set_cons_zero, e0, e1, e2, e3, e4, e5, e6, e7, e8]
                clear hv3 e0 e1 e2 e3 e4 e5 e6 e7 e8
                go_upto_region 17 with (fail)
                refine par_ext (n := 15) (by kernel_rfl) [.is (.int .i64 ((k : Int))), .is (.int .i64 ((k : Int))), .is (.int .i64 ((k : Int) - (16 : Int))), .is (.pointer (some ⟨w.heap.size + 1, (k - 16), none⟩)), .is (.int .u32 (u32i (uw (fillW L k) (k - 16)))), .is (.int .u32 (u32i ((rotr (uw (fillW L k) (k - 15)) 7 ^^^ rotr (uw (fillW L k) (k - 15)) 18) ^^^ shr (uw (fillW L k) (k - 15)) 3))), .is (.int .u32 (u32i ((uw (fillW L k) (k - 16)) + ((rotr (uw (fillW L k) (k - 15)) 7 ^^^ rotr (uw (fillW L k) (k - 15)) 18) ^^^ shr (uw (fillW L k) (k - 15)) 3)))), .is (.int .i64 ((k : Int))), .is (.int .i64 ((k : Int) - (7 : Int))), .is (.pointer (some ⟨w.heap.size + 1, (k - 7), none⟩)), .is (.int .u32 (u32i (uw (fillW L k) (k - 7)))), .is (.int .u32 (u32i (((uw (fillW L k) (k - 16)) + ((rotr (uw (fillW L k) (k - 15)) 7 ^^^ rotr (uw (fillW L k) (k - 15)) 18) ^^^ shr (uw (fillW L k) (k - 15)) 3)) + (uw (fillW L k) (k - 7))))), .is (.int .u32 (u32i ((rotr (uw (fillW L k) (k - 2)) 17 ^^^ rotr (uw (fillW L k) (k - 2)) 19) ^^^ shr (uw (fillW L k) (k - 2)) 10))), .is (.int .u32 (u32i ((((uw (fillW L k) (k - 16)) + ((rotr (uw (fillW L k) (k - 15)) 7 ^^^ rotr (uw (fillW L k) (k - 15)) 18) ^^^ shr (uw (fillW L k) (k - 15)) 3)) + (uw (fillW L k) (k - 7))) + ((rotr (uw (fillW L k) (k - 2)) 17 ^^^ rotr (uw (fillW L k) (k - 2)) 19) ^^^ shr (uw (fillW L k) (k - 2)) 10)))), .is (.pointer (some ⟨w.heap.size + 1, k, none⟩))] rfl ⟨?_, ?_, ?_, ?_, ?_, ?_, ?_, ?_, ?_, ?_, ?_, ?_, ?_, ?_, ?_, trivial⟩ ?_
                · refine stepE rfl fun sdn sa sw sE sd sk => ?_
                  have h7 : sa.eval (.tmp 7) = .int .i64 ((k : Int)) := sk.old 7 rfl
                  exact Runs.move rfl h7 ⟨Ext.refl _, rfl⟩
                · refine stepE rfl fun sdn sa sw sE sd sk => ?_
                  have h7 : sa.eval (.tmp 7) = .int .i64 ((k : Int)) := sk.old 7 rfl
                  exact Runs.move rfl h7 ⟨Ext.refl _, rfl⟩
                · refine stepE rfl fun sdn sa sw sE sd sk => ?_
                  have h67 : sa.eval (.tmp 67) = .int .i64 ((k : Int)) := sk.fact 1 67 rfl (sd 1 rfl)
                  exact Runs.bin rfl h67 rfl (eqGuard_bin rfl) (bin_sub64 _ _ _ (by omega) (by omega)) ⟨Ext.refl _, rfl⟩
                · refine stepE rfl fun sdn sa sw sE sd sk => ?_
                  have h3 : sa.eval (.tmp 3) = .pointer (some ⟨w.heap.size + 1, 0, none⟩) := sk.old 3 rfl
                  have h68 : sa.eval (.tmp 68) = .int .i64 ((k : Int) - (16 : Int)) := sk.fact 2 68 rfl (sd 2 rfl)
                  exact Runs.idx rfl h3 h68 (run_idx_arr1 Tryz.underlying101 inf101_eq inf101_size ((k - 16)) (by omega) (by omega)) ⟨Ext.refl _, rfl⟩
                · refine stepE rfl fun sdn sa sw sE sd sk => ?_
                  have h69 : sa.eval (.tmp 69) = .pointer (some ⟨w.heap.size + 1, (k - 16), none⟩) := sk.fact 3 69 rfl (sd 3 rfl)
                  exact Runs.load rfl h69 (run_load1 Tryz.underlying56 rfl (((((c3.ext hE1).ext hE2).ext hE3).ext sE).cell (by rw [fillW_length]; omega))) ⟨Ext.refl _, rfl⟩
                · refine stepE rfl fun sdn sa sw sE sd sk => ?_
                  have h10 : sa.eval (.tmp 10) = .int .u32 (u32i ((rotr (uw (fillW L k) (k - 15)) 7 ^^^ rotr (uw (fillW L k) (k - 15)) 18) ^^^ shr (uw (fillW L k) (k - 15)) 3)) := sk.old 10 rfl
                  exact Runs.move rfl h10 ⟨Ext.refl _, rfl⟩
                · refine stepE rfl fun sdn sa sw sE sd sk => ?_
                  have h70 : sa.eval (.tmp 70) = .int .u32 (u32i (uw (fillW L k) (k - 16))) := sk.fact 4 70 rfl (sd 4 rfl)
                  have h71 : sa.eval (.tmp 71) = .int .u32 (u32i ((rotr (uw (fillW L k) (k - 15)) 7 ^^^ rotr (uw (fillW L k) (k - 15)) 18) ^^^ shr (uw (fillW L k) (k - 15)) 3)) := sk.fact 5 71 rfl (sd 5 rfl)
                  exact Runs.bin rfl h70 h71 (eqGuard_bin rfl) (bin_add32 _ _ _) ⟨Ext.refl _, rfl⟩
                · refine stepE rfl fun sdn sa sw sE sd sk => ?_
                  have h7 : sa.eval (.tmp 7) = .int .i64 ((k : Int)) := sk.old 7 rfl
                  exact Runs.move rfl h7 ⟨Ext.refl _, rfl⟩
                · refine stepE rfl fun sdn sa sw sE sd sk => ?_
                  have h73 : sa.eval (.tmp 73) = .int .i64 ((k : Int)) := sk.fact 7 73 rfl (sd 7 rfl)
                  exact Runs.bin rfl h73 rfl (eqGuard_bin rfl) (bin_sub64 _ _ _ (by omega) (by omega)) ⟨Ext.refl _, rfl⟩
                · refine stepE rfl fun sdn sa sw sE sd sk => ?_
                  have h3 : sa.eval (.tmp 3) = .pointer (some ⟨w.heap.size + 1, 0, none⟩) := sk.old 3 rfl
                  have h74 : sa.eval (.tmp 74) = .int .i64 ((k : Int) - (7 : Int)) := sk.fact 8 74 rfl (sd 8 rfl)
                  exact Runs.idx rfl h3 h74 (run_idx_arr1 Tryz.underlying101 inf101_eq inf101_size ((k - 7)) (by omega) (by omega)) ⟨Ext.refl _, rfl⟩
                · refine stepE rfl fun sdn sa sw sE sd sk => ?_
                  have h75 : sa.eval (.tmp 75) = .pointer (some ⟨w.heap.size + 1, (k - 7), none⟩) := sk.fact 9 75 rfl (sd 9 rfl)
                  exact Runs.load rfl h75 (run_load1 Tryz.underlying56 rfl (((((c3.ext hE1).ext hE2).ext hE3).ext sE).cell (by rw [fillW_length]; omega))) ⟨Ext.refl _, rfl⟩
                · refine stepE rfl fun sdn sa sw sE sd sk => ?_
                  have h72 : sa.eval (.tmp 72) = .int .u32 (u32i ((uw (fillW L k) (k - 16)) + ((rotr (uw (fillW L k) (k - 15)) 7 ^^^ rotr (uw (fillW L k) (k - 15)) 18) ^^^ shr (uw (fillW L k) (k - 15)) 3))) := sk.fact 6 72 rfl (sd 6 rfl)
                  have h76 : sa.eval (.tmp 76) = .int .u32 (u32i (uw (fillW L k) (k - 7))) := sk.fact 10 76 rfl (sd 10 rfl)
                  exact Runs.bin rfl h72 h76 (eqGuard_bin rfl) (bin_add32 _ _ _) ⟨Ext.refl _, rfl⟩
                · refine stepE rfl fun sdn sa sw sE sd sk => ?_
                  have h11 : sa.eval (.tmp 11) = .int .u32 (u32i ((rotr (uw (fillW L k) (k - 2)) 17 ^^^ rotr (uw (fillW L k) (k - 2)) 19) ^^^ shr (uw (fillW L k) (k - 2)) 10)) := sk.old 11 rfl
                  exact Runs.move rfl h11 ⟨Ext.refl _, rfl⟩
                · refine stepE rfl fun sdn sa sw sE sd sk => ?_
                  have h77 : sa.eval (.tmp 77) = .int .u32 (u32i (((uw (fillW L k) (k - 16)) + ((rotr (uw (fillW L k) (k - 15)) 7 ^^^ rotr (uw (fillW L k) (k - 15)) 18) ^^^ shr (uw (fillW L k) (k - 15)) 3)) + (uw (fillW L k) (k - 7)))) := sk.fact 11 77 rfl (sd 11 rfl)
                  have h78 : sa.eval (.tmp 78) = .int .u32 (u32i ((rotr (uw (fillW L k) (k - 2)) 17 ^^^ rotr (uw (fillW L k) (k - 2)) 19) ^^^ shr (uw (fillW L k) (k - 2)) 10)) := sk.fact 12 78 rfl (sd 12 rfl)
                  exact Runs.bin rfl h77 h78 (eqGuard_bin rfl) (bin_add32 _ _ _) ⟨Ext.refl _, rfl⟩
                · refine stepE rfl fun sdn sa sw sE sd sk => ?_
                  have h3 : sa.eval (.tmp 3) = .pointer (some ⟨w.heap.size + 1, 0, none⟩) := sk.old 3 rfl
                  have h66 : sa.eval (.tmp 66) = .int .i64 ((k : Int)) := sk.fact 0 66 rfl (sd 0 rfl)
                  exact Runs.idx rfl h3 h66 (run_idx_arr1 Tryz.underlying101 inf101_eq inf101_size (k) (by omega) (by omega)) ⟨Ext.refl _, rfl⟩
                ·
                  intro vals W6 hE4 hv4
                  have e0 : vals 0 = .int .i64 ((k : Int)) := hv4 0 (by omega) 66 rfl
                  have e1 : vals 1 = .int .i64 ((k : Int)) := hv4 1 (by omega) 67 rfl
                  have e2 : vals 2 = .int .i64 ((k : Int) - (16 : Int)) := hv4 2 (by omega) 68 rfl
                  have e3 : vals 3 = .pointer (some ⟨w.heap.size + 1, (k - 16), none⟩) := hv4 3 (by omega) 69 rfl
                  have e4 : vals 4 = .int .u32 (u32i (uw (fillW L k) (k - 16))) := hv4 4 (by omega) 70 rfl
                  have e5 : vals 5 = .int .u32 (u32i ((rotr (uw (fillW L k) (k - 15)) 7 ^^^ rotr (uw (fillW L k) (k - 15)) 18) ^^^ shr (uw (fillW L k) (k - 15)) 3)) := hv4 5 (by omega) 71 rfl
                  have e6 : vals 6 = .int .u32 (u32i ((uw (fillW L k) (k - 16)) + ((rotr (uw (fillW L k) (k - 15)) 7 ^^^ rotr (uw (fillW L k) (k - 15)) 18) ^^^ shr (uw (fillW L k) (k - 15)) 3))) := hv4 6 (by omega) 72 rfl
                  have e7 : vals 7 = .int .i64 ((k : Int)) := hv4 7 (by omega) 73 rfl
                  have e8 : vals 8 = .int .i64 ((k : Int) - (7 : Int)) := hv4 8 (by omega) 74 rfl
                  have e9 : vals 9 = .pointer (some ⟨w.heap.size + 1, (k - 7), none⟩) := hv4 9 (by omega) 75 rfl
                  have e10 : vals 10 = .int .u32 (u32i (uw (fillW L k) (k - 7))) := hv4 10 (by omega) 76 rfl
                  have e11 : vals 11 = .int .u32 (u32i (((uw (fillW L k) (k - 16)) + ((rotr (uw (fillW L k) (k - 15)) 7 ^^^ rotr (uw (fillW L k) (k - 15)) 18) ^^^ shr (uw (fillW L k) (k - 15)) 3)) + (uw (fillW L k) (k - 7)))) := hv4 11 (by omega) 77 rfl
                  have e12 : vals 12 = .int .u32 (u32i ((rotr (uw (fillW L k) (k - 2)) 17 ^^^ rotr (uw (fillW L k) (k - 2)) 19) ^^^ shr (uw (fillW L k) (k - 2)) 10)) := hv4 12 (by omega) 78 rfl
                  have e13 : vals 13 = .int .u32 (u32i ((((uw (fillW L k) (k - 16)) + ((rotr (uw (fillW L k) (k - 15)) 7 ^^^ rotr (uw (fillW L k) (k - 15)) 18) ^^^ shr (uw (fillW L k) (k - 15)) 3)) + (uw (fillW L k) (k - 7))) + ((rotr (uw (fillW L k) (k - 2)) 17 ^^^ rotr (uw (fillW L k) (k - 2)) 19) ^^^ shr (uw (fillW L k) (k - 2)) 10))) := hv4 13 (by omega) 79 rfl
                  have e14 : vals 14 = .pointer (some ⟨w.heap.size + 1, k, none⟩) := hv4 14 (by omega) 80 rfl
                  simp only [putAll, Act.put, List.take_succ_cons, List.take_zero, List.drop_succ_cons, List.drop_zero, List.drop_nil, List.take_nil, Nat.reduceAdd, List.setIfInBounds_toArray, List.set_cons_succ, List.set_cons_zero, e0, e1, e2, e3, e4, e5, e6, e7, e8, e9, e10, e11, e12, e13, e14]
                  clear hv4 e0 e1 e2 e3 e4 e5 e6 e7 e8 e9 e10 e11 e12 e13 e14
                  have hEE := ((hE1.trans hE2).trans hE3).trans hE4
                  have y1 := (c3.ext hEE).cell (i := k) (by rw [fillW_length]; omega)
                  have y2 := (c3.ext hEE).frozen k
                  go_wp2_with fail
                  go_roundw
                  case rel =>
                    refine ⟨k + 1, by omega, by omega, by go_num, (c2.ext hEE).far (by dsimp only; omega) _, ?_, (hEr.trans hEE).set (by dsimp only; omega) _⟩
                    have y3 := (c3.ext hEE).set k (nextW (fillW L k) k)
                    simp only [fillW, if_neg (show ¬ k < 16 by omega)]
                    exact y3
                  case measure => simp [intOf]; omega
        · obtain rfl : k = 64 := by omega
          clear hlt hk16 hk64
          go_upto_region 18 with (fail)
          refine wp_region_lit ?_
          refine ldrow_law rfl rfl rfl c3 Tryz.underlying101 (by rw [row64_eq]; exact congrArg some row64_size) (fillW_length _ _) ?_
          go_wp2_with (refine strow_law (l' := fillW L 64) rfl rfl rfl rfl c2 row64_eq (row64_size.trans (fillW_length _ _).symm) ((fillW_length _ _).trans List.length_replicate.symm) ?_; intro W8 s8 g8 z8)
          refine bodyPost_ret (v := .agg (uv (fillW L 64))) ?_ rfl ⟨rfl, hEr.then_grown g8 (by intro j hj; cases hj; exact Nat.le_refl _)⟩
          exact results_cell_row (fn := Tryz.f102) (p := 2) (ty := 101) rfl _ W8 w.heap.size 101 (uv (fillW L 64)) (0, 0) _ rfl s8 Tryz.underlying101 rfl (by rw [row64_eq, uv_size, fillW_length]; exact congrArg some row64_size)
end Go.Proofs.YtkndgpjamijbbaaGreat

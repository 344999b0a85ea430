/-
  The reference's SHA-256, walked: turn and block of the reference compute what the plain text says.
-/
import Derived.Test.YtkndgpjamijbbaaGreatLawNumbers22Q2
import Derived.Deep.Cut
import Derived.Deep.CutBlock
import Derived.Lib.Hide
namespace Go.Proofs.YtkndgpjamijbbaaGreat
set_option maxRecDepth 100000
open Go Go.RowKit

noncomputable def inf100 : TypeInfo := (Tryz.prog.info? 56).getD default
theorem inf100_eq : Tryz.prog.info? 56 = some inf100 := by kernel_rfl
theorem inf100_size : inf100.size = 1 := by kernel_rfl
noncomputable def inf101 : TypeInfo := (Tryz.prog.info? 56).getD default
theorem inf101_eq : Tryz.prog.info? 56 = some inf101 := by kernel_rfl
theorem inf101_size : inf101.size = 1 := by kernel_rfl
noncomputable def inf26 : TypeInfo := (Tryz.prog.info? 5).getD default
theorem inf26_eq : Tryz.prog.info? 5 = some inf26 := by kernel_rfl
theorem inf26_size : inf26.size = 1 := by kernel_rfl
noncomputable def row8 : TypeInfo := (Tryz.prog.info? 100).getD default
theorem row8_eq : Tryz.prog.info? 100 = some row8 := by kernel_rfl
theorem row8_size : row8.size = 8 := by kernel_rfl
theorem row8_map : (Tryz.prog.info? 100).map (·.size) = some 8 := by kernel_rfl
noncomputable def row64 : TypeInfo := (Tryz.prog.info? 101).getD default
theorem row64_eq : Tryz.prog.info? 101 = some row64 := by kernel_rfl
theorem row64_size : row64.size = 64 := by kernel_rfl

theorem shaK_length : shaK.length = 64 := rfl
theorem cell_at {w w' : World} {ad : Addr} {n : Nat} {L : List UInt8} (h : ∀ j, j < n → w.cell? (ad.add j) = some (.int .u8 (u8i (ub L j)))) (e : Ext w w') {j : Nat} (hj : j < n) : w'.cell? (ad.add j) = some (.int .u8 (u8i (ub L j))) := e.cell (h j hj)

set_option maxHeartbeats 400000 in
theorem turn_any (x : UInt32) (k : Nat) (kI : Int) (w : World) (hk : kI = (k : Int)) (h1 : 1 ≤ k) (h2 : k ≤ 31) :
    Calls Tryz.prog 82 #[.int .u32 (u32i x), .int .u64 kI] w fun e w' => e = .returned (.int .u32 (u32i (rotr x k))) ∧ Ext w w' := by
  subst hk
  go_enter Tryz.func82, Tryz.ntmps82
  go_upto_region 1 with (fail)
  refine seq_ext (n := 9) (by kernel_rfl) [.is (.int .u32 (u32i (x))), .is (.int .u64 ((k : Int))), .is (.int .u32 (u32i (shr x k))), .is (.int .u32 (u32i (x))), .is (.int .u64 ((k : Int))), .is (.int .u64 (32 - (k : Int))), .is (.int .u32 (u32i (shl x (32 - k)))), .is (.int .u32 (u32i ((shr x k) ||| (shl x (32 - k))))), .is (.int .u32 (u32i ((shr x k) ||| (shl x (32 - k)))))] rfl ⟨?_, ?_, ?_, ?_, ?_, ?_, ?_, ?_, ?_, trivial⟩ ?_
  · refine stepE rfl fun sdn sa sw sE sd sk => ?_
    have h0 : sa.eval (.tmp 0) = .int .u32 (u32i (x)) := sk.old 0 rfl
    exact Runs.move rfl h0 ⟨Ext.refl _, rfl⟩
  · refine stepE rfl fun sdn sa sw sE sd sk => ?_
    have h1 : sa.eval (.tmp 1) = .int .u64 ((k : Int)) := sk.old 1 rfl
    exact Runs.move rfl h1 ⟨Ext.refl _, rfl⟩
  · refine stepE rfl fun sdn sa sw sE sd sk => ?_
    have h5 : sa.eval (.tmp 5) = .int .u32 (u32i (x)) := sk.fact 0 5 rfl (sd 0 rfl)
    have h6 : sa.eval (.tmp 6) = .int .u64 ((k : Int)) := sk.fact 1 6 rfl (sd 1 rfl)
    exact Runs.bin rfl h5 h6 (eqGuard_bin rfl) (bin_shr32 _ _ k _) ⟨Ext.refl _, rfl⟩
  · refine stepE rfl fun sdn sa sw sE sd sk => ?_
    have h0 : sa.eval (.tmp 0) = .int .u32 (u32i (x)) := sk.old 0 rfl
    exact Runs.move rfl h0 ⟨Ext.refl _, rfl⟩
  · refine stepE rfl fun sdn sa sw sE sd sk => ?_
    have h1 : sa.eval (.tmp 1) = .int .u64 ((k : Int)) := sk.old 1 rfl
    exact Runs.move rfl h1 ⟨Ext.refl _, rfl⟩
  · refine stepE rfl fun sdn sa sw sE sd sk => ?_
    have h9 : sa.eval (.tmp 9) = .int .u64 ((k : Int)) := sk.fact 4 9 rfl (sd 4 rfl)
    exact Runs.bin rfl rfl h9 (eqGuard_bin rfl) (bin_sub64u _ k (by omega)) ⟨Ext.refl _, rfl⟩
  · refine stepE rfl fun sdn sa sw sE sd sk => ?_
    have h8 : sa.eval (.tmp 8) = .int .u32 (u32i (x)) := sk.fact 3 8 rfl (sd 3 rfl)
    have h10 : sa.eval (.tmp 10) = .int .u64 (32 - (k : Int)) := sk.fact 5 10 rfl (sd 5 rfl)
    exact Runs.bin rfl h8 h10 (eqGuard_bin rfl) (bin_shl32 _ _ (32 - k) _ (by omega) (by omega)) ⟨Ext.refl _, rfl⟩
  · refine stepE rfl fun sdn sa sw sE sd sk => ?_
    have h7 : sa.eval (.tmp 7) = .int .u32 (u32i (shr x k)) := sk.fact 2 7 rfl (sd 2 rfl)
    have h11 : sa.eval (.tmp 11) = .int .u32 (u32i (shl x (32 - k))) := sk.fact 6 11 rfl (sd 6 rfl)
    exact Runs.bin rfl h7 h11 (eqGuard_bin rfl) (bin_or32 _ _ _) ⟨Ext.refl _, rfl⟩
  · refine stepE rfl fun sdn sa sw sE sd sk => ?_
    have h12 : sa.eval (.tmp 12) = .int .u32 (u32i ((shr x k) ||| (shl x (32 - k)))) := sk.fact 7 12 rfl (sd 7 rfl)
    exact Runs.assign rfl h12 ⟨Ext.refl _, rfl⟩
  ·
    intro vals W1 hE hv
    have e0 : vals 0 = .int .u32 (u32i (x)) := hv 0 (by omega) 5 rfl
    have e1 : vals 1 = .int .u64 ((k : Int)) := hv 1 (by omega) 6 rfl
    have e2 : vals 2 = .int .u32 (u32i (shr x k)) := hv 2 (by omega) 7 rfl
    have e3 : vals 3 = .int .u32 (u32i (x)) := hv 3 (by omega) 8 rfl
    have e4 : vals 4 = .int .u64 ((k : Int)) := hv 4 (by omega) 9 rfl
    have e5 : vals 5 = .int .u64 (32 - (k : Int)) := hv 5 (by omega) 10 rfl
    have e6 : vals 6 = .int .u32 (u32i (shl x (32 - k))) := hv 6 (by omega) 11 rfl
    have e7 : vals 7 = .int .u32 (u32i ((shr x k) ||| (shl x (32 - k)))) := hv 7 (by omega) 12 rfl
    have e8 : vals 8 = .int .u32 (u32i ((shr x k) ||| (shl x (32 - k)))) := hv 8 (by omega) 4 rfl
    simp only [putAll, Act.put, List.take_succ_cons, List.take_zero, List.drop_succ_cons, List.drop_zero, List.drop_nil, List.take_nil, Nat.reduceAdd, List.setIfInBounds_toArray, List.set_cons_succ, List.set_cons_zero, e0, e1, e2, e3, e4, e5, e6, e7, e8]
    clear hv e0 e1 e2 e3 e4 e5 e6 e7 e8
    go_wp2_with fail
    go_ret
    exact ⟨rfl, hE⟩


set_option maxRecDepth 100000 in
set_option maxHeartbeats 2000000 in
theorem block_any (g4 c : Nat) (ad : Addr) (h : List UInt32) (L : List UInt8) (w : World) (hh : h.length = 8) (hk : Arr w g4 101 shaK) (hcell : ∀ j, j < 64 → w.cell? (ad.add j) = some (.int .u8 (u8i (ub L j)))) (hc : 64 ≤ c) (hc' : c ≤ maxLen) :
    Calls Tryz.prog 60 #[.agg (uv h), .pointer (some ⟨g4, 0, none⟩), .slice (some ad) 64 c] w fun e w' => e = .returned (.agg (uv (compress h L))) ∧ Ext w w' := by
  have Hh := Lib.hid hh; clear hh
  go_enter Tryz.func60, Tryz.ntmps60
  go_upto_region 2 with (fail)
  obtain ⟨q1, q2, q3, q4⟩ := new3 w (.cells (uv h) 100) (.cells (uv (List.replicate 8 0)) 100) (.cells (uv (List.replicate 64 0)) 101)
  refine genW (fun W => Arr W w.heap.size 100 h ∧ Arr W (w.heap.size + 1) 100 (List.replicate 8 0) ∧ Arr W (w.heap.size + 1 + 1) 101 (fillW L 0) ∧ Ext w W) ⟨q1, q2, q3, ((Ext.refl w).alloc _).alloc _ |>.alloc _⟩ ?_
  rintro W3 ⟨b3, b6, b7, hE3⟩
  clear q1 q2 q3 q4
  go_wp2_with fail
  go_loopw [8] (fun i wr => ∃ k : Nat, k ≤ 16 ∧ i = .int .i64 k ∧ Arr wr w.heap.size 100 h ∧ Arr wr (w.heap.size + 1) 100 (List.replicate 8 0) ∧ Arr wr (w.heap.size + 1 + 1) 101 (fillW L k) ∧ Ext w wr) (fun i _ => 16 - (intOf i).toNat)
  case atStart => exact ⟨0, by omega, rfl, b3, b6, b7, hE3⟩
  case round =>
    obtain ⟨k, hk16, rfl, c3, c6, c7, hEr⟩ := hrel
    clear b3 b6 b7 hE3
    by_cases hlt : k < 16
    · go_upto_region 5 with (fail)
      refine par_ext (n := 35) (by kernel_rfl) [.is (.int .i64 ((k : Int))), .is (.slice (some ad) (64) (c)), .is (.int .i64 ((k : Int))), .is (.int .i64 ((4 : Int) * (k : Int))), .is (.pointer (some (ad.add ((4 * k))))), .is (.int .u8 (u8i (ub L ((4 * k))))), .is (.int .u32 (u32i (ub L ((4 * k))).toUInt32)), .is (.int .u32 (u32i (shl (ub L ((4 * k))).toUInt32 24))), .is (.slice (some ad) (64) (c)), .is (.int .i64 ((k : Int))), .is (.int .i64 ((4 : Int) * (k : Int))), .is (.int .i64 (((4 : Int) * (k : Int)) + (1 : Int))), .is (.pointer (some (ad.add (((4 * k) + 1))))), .is (.int .u8 (u8i (ub L (((4 * k) + 1))))), .is (.int .u32 (u32i (ub L (((4 * k) + 1))).toUInt32)), .is (.int .u32 (u32i (shl (ub L (((4 * k) + 1))).toUInt32 16))), .is (.int .u32 (u32i ((shl (ub L ((4 * k))).toUInt32 24) ||| (shl (ub L (((4 * k) + 1))).toUInt32 16)))), .is (.slice (some ad) (64) (c)), .is (.int .i64 ((k : Int))), .is (.int .i64 ((4 : Int) * (k : Int))), .is (.int .i64 (((4 : Int) * (k : Int)) + (2 : Int))), .is (.pointer (some (ad.add (((4 * k) + 2))))), .is (.int .u8 (u8i (ub L (((4 * k) + 2))))), .is (.int .u32 (u32i (ub L (((4 * k) + 2))).toUInt32)), .is (.int .u32 (u32i (shl (ub L (((4 * k) + 2))).toUInt32 8))), .is (.int .u32 (u32i (((shl (ub L ((4 * k))).toUInt32 24) ||| (shl (ub L (((4 * k) + 1))).toUInt32 16)) ||| (shl (ub L (((4 * k) + 2))).toUInt32 8)))), .is (.slice (some ad) (64) (c)), .is (.int .i64 ((k : Int))), .is (.int .i64 ((4 : Int) * (k : Int))), .is (.int .i64 (((4 : Int) * (k : Int)) + (3 : Int))), .is (.pointer (some (ad.add (((4 * k) + 3))))), .is (.int .u8 (u8i (ub L (((4 * k) + 3))))), .is (.int .u32 (u32i (ub L (((4 * k) + 3))).toUInt32)), .is (.int .u32 (u32i ((((shl (ub L ((4 * k))).toUInt32 24) ||| (shl (ub L (((4 * k) + 1))).toUInt32 16)) ||| (shl (ub L (((4 * k) + 2))).toUInt32 8)) ||| (ub L (((4 * k) + 3))).toUInt32))), .is (.pointer (some ⟨w.heap.size + 1 + 1, k, none⟩))] rfl ⟨?_, ?_, ?_, ?_, ?_, ?_, ?_, ?_, ?_, ?_, ?_, ?_, ?_, ?_, ?_, ?_, ?_, ?_, ?_, ?_, ?_, ?_, ?_, ?_, ?_, ?_, ?_, ?_, ?_, ?_, ?_, ?_, ?_, ?_, ?_, trivial⟩ ?_
      · refine stepE rfl fun sdn sa sw sE sd sk => ?_
        have h8 : sa.eval (.tmp 8) = .int .i64 ((k : Int)) := sk.old 8 rfl
        exact Runs.move rfl h8 ⟨Ext.refl _, rfl⟩
      · refine stepE rfl fun sdn sa sw sE sd sk => ?_
        have h2 : sa.eval (.tmp 2) = .slice (some ad) (64) (c) := sk.old 2 rfl
        exact Runs.move rfl h2 ⟨Ext.refl _, rfl⟩
      · refine stepE rfl fun sdn sa sw sE sd sk => ?_
        have h8 : sa.eval (.tmp 8) = .int .i64 ((k : Int)) := sk.old 8 rfl
        exact Runs.move rfl h8 ⟨Ext.refl _, rfl⟩
      · refine stepE rfl fun sdn sa sw sE sd sk => ?_
        have h25 : sa.eval (.tmp 25) = .int .i64 ((k : Int)) := sk.fact 2 25 rfl (sd 2 rfl)
        exact Runs.bin rfl rfl h25 (eqGuard_bin rfl) (bin_mul64 _ _ _ (by omega) (by omega)) ⟨Ext.refl _, rfl⟩
      · refine stepE rfl fun sdn sa sw sE sd sk => ?_
        have h24 : sa.eval (.tmp 24) = .slice (some ad) (64) (c) := sk.fact 1 24 rfl (sd 1 rfl)
        have h26 : sa.eval (.tmp 26) = .int .i64 ((4 : Int) * (k : Int)) := sk.fact 3 26 rfl (sd 3 rfl)
        exact Runs.idx rfl h24 h26 (run_idx_sl1 Tryz.underlying26 inf26_eq inf26_size ((4 * k)) (by omega) (by omega)) ⟨Ext.refl _, rfl⟩
      · refine stepE rfl fun sdn sa sw sE sd sk => ?_
        have h27 : sa.eval (.tmp 27) = .pointer (some (ad.add ((4 * k)))) := sk.fact 4 27 rfl (sd 4 rfl)
        exact Runs.load rfl h27 (run_load1 Tryz.underlying5 rfl (cell_at hcell (hEr.trans sE) (by omega))) ⟨Ext.refl _, rfl⟩
      · refine stepE rfl fun sdn sa sw sE sd sk => ?_
        have h28 : sa.eval (.tmp 28) = .int .u8 (u8i (ub L ((4 * k)))) := sk.fact 5 28 rfl (sd 5 rfl)
        exact Runs.conv rfl h28 (conv_u8_u32 Tryz.underlying5 Tryz.underlying56 _) ⟨Ext.refl _, rfl⟩
      · refine stepE rfl fun sdn sa sw sE sd sk => ?_
        have h29 : sa.eval (.tmp 29) = .int .u32 (u32i (ub L ((4 * k))).toUInt32) := sk.fact 6 29 rfl (sd 6 rfl)
        exact Runs.bin rfl h29 rfl (eqGuard_bin rfl) (bin_shl32 _ _ 24 _) ⟨Ext.refl _, rfl⟩
      · refine stepE rfl fun sdn sa sw sE sd sk => ?_
        have h2 : sa.eval (.tmp 2) = .slice (some ad) (64) (c) := sk.old 2 rfl
        exact Runs.move rfl h2 ⟨Ext.refl _, rfl⟩
      · refine stepE rfl fun sdn sa sw sE sd sk => ?_
        have h8 : sa.eval (.tmp 8) = .int .i64 ((k : Int)) := sk.old 8 rfl
        exact Runs.move rfl h8 ⟨Ext.refl _, rfl⟩
      · refine stepE rfl fun sdn sa sw sE sd sk => ?_
        have h32 : sa.eval (.tmp 32) = .int .i64 ((k : Int)) := sk.fact 9 32 rfl (sd 9 rfl)
        exact Runs.bin rfl rfl h32 (eqGuard_bin rfl) (bin_mul64 _ _ _ (by omega) (by omega)) ⟨Ext.refl _, rfl⟩
      · refine stepE rfl fun sdn sa sw sE sd sk => ?_
        have h33 : sa.eval (.tmp 33) = .int .i64 ((4 : Int) * (k : Int)) := sk.fact 10 33 rfl (sd 10 rfl)
        exact Runs.bin rfl h33 rfl (eqGuard_bin rfl) (bin_add64 _ _ _ (by omega) (by omega)) ⟨Ext.refl _, rfl⟩
      · refine stepE rfl fun sdn sa sw sE sd sk => ?_
        have h31 : sa.eval (.tmp 31) = .slice (some ad) (64) (c) := sk.fact 8 31 rfl (sd 8 rfl)
        have h34 : sa.eval (.tmp 34) = .int .i64 (((4 : Int) * (k : Int)) + (1 : Int)) := sk.fact 11 34 rfl (sd 11 rfl)
        exact Runs.idx rfl h31 h34 (run_idx_sl1 Tryz.underlying26 inf26_eq inf26_size (((4 * k) + 1)) (by omega) (by omega)) ⟨Ext.refl _, rfl⟩
      · refine stepE rfl fun sdn sa sw sE sd sk => ?_
        have h35 : sa.eval (.tmp 35) = .pointer (some (ad.add (((4 * k) + 1)))) := sk.fact 12 35 rfl (sd 12 rfl)
        exact Runs.load rfl h35 (run_load1 Tryz.underlying5 rfl (cell_at hcell (hEr.trans sE) (by omega))) ⟨Ext.refl _, rfl⟩
      · refine stepE rfl fun sdn sa sw sE sd sk => ?_
        have h36 : sa.eval (.tmp 36) = .int .u8 (u8i (ub L (((4 * k) + 1)))) := sk.fact 13 36 rfl (sd 13 rfl)
        exact Runs.conv rfl h36 (conv_u8_u32 Tryz.underlying5 Tryz.underlying56 _) ⟨Ext.refl _, rfl⟩
      · refine stepE rfl fun sdn sa sw sE sd sk => ?_
        have h37 : sa.eval (.tmp 37) = .int .u32 (u32i (ub L (((4 * k) + 1))).toUInt32) := sk.fact 14 37 rfl (sd 14 rfl)
        exact Runs.bin rfl h37 rfl (eqGuard_bin rfl) (bin_shl32 _ _ 16 _) ⟨Ext.refl _, rfl⟩
      · refine stepE rfl fun sdn sa sw sE sd sk => ?_
        have h30 : sa.eval (.tmp 30) = .int .u32 (u32i (shl (ub L ((4 * k))).toUInt32 24)) := sk.fact 7 30 rfl (sd 7 rfl)
        have h38 : sa.eval (.tmp 38) = .int .u32 (u32i (shl (ub L (((4 * k) + 1))).toUInt32 16)) := sk.fact 15 38 rfl (sd 15 rfl)
        exact Runs.bin rfl h30 h38 (eqGuard_bin rfl) (bin_or32 _ _ _) ⟨Ext.refl _, rfl⟩
      · refine stepE rfl fun sdn sa sw sE sd sk => ?_
        have h2 : sa.eval (.tmp 2) = .slice (some ad) (64) (c) := sk.old 2 rfl
        exact Runs.move rfl h2 ⟨Ext.refl _, rfl⟩
      · refine stepE rfl fun sdn sa sw sE sd sk => ?_
        have h8 : sa.eval (.tmp 8) = .int .i64 ((k : Int)) := sk.old 8 rfl
        exact Runs.move rfl h8 ⟨Ext.refl _, rfl⟩
      · refine stepE rfl fun sdn sa sw sE sd sk => ?_
        have h41 : sa.eval (.tmp 41) = .int .i64 ((k : Int)) := sk.fact 18 41 rfl (sd 18 rfl)
        exact Runs.bin rfl rfl h41 (eqGuard_bin rfl) (bin_mul64 _ _ _ (by omega) (by omega)) ⟨Ext.refl _, rfl⟩
      · refine stepE rfl fun sdn sa sw sE sd sk => ?_
        have h42 : sa.eval (.tmp 42) = .int .i64 ((4 : Int) * (k : Int)) := sk.fact 19 42 rfl (sd 19 rfl)
        exact Runs.bin rfl h42 rfl (eqGuard_bin rfl) (bin_add64 _ _ _ (by omega) (by omega)) ⟨Ext.refl _, rfl⟩
      · refine stepE rfl fun sdn sa sw sE sd sk => ?_
        have h40 : sa.eval (.tmp 40) = .slice (some ad) (64) (c) := sk.fact 17 40 rfl (sd 17 rfl)
        have h43 : sa.eval (.tmp 43) = .int .i64 (((4 : Int) * (k : Int)) + (2 : Int)) := sk.fact 20 43 rfl (sd 20 rfl)
        exact Runs.idx rfl h40 h43 (run_idx_sl1 Tryz.underlying26 inf26_eq inf26_size (((4 * k) + 2)) (by omega) (by omega)) ⟨Ext.refl _, rfl⟩
      · refine stepE rfl fun sdn sa sw sE sd sk => ?_
        have h44 : sa.eval (.tmp 44) = .pointer (some (ad.add (((4 * k) + 2)))) := sk.fact 21 44 rfl (sd 21 rfl)
        exact Runs.load rfl h44 (run_load1 Tryz.underlying5 rfl (cell_at hcell (hEr.trans sE) (by omega))) ⟨Ext.refl _, rfl⟩
      · refine stepE rfl fun sdn sa sw sE sd sk => ?_
        have h45 : sa.eval (.tmp 45) = .int .u8 (u8i (ub L (((4 * k) + 2)))) := sk.fact 22 45 rfl (sd 22 rfl)
        exact Runs.conv rfl h45 (conv_u8_u32 Tryz.underlying5 Tryz.underlying56 _) ⟨Ext.refl _, rfl⟩
      · refine stepE rfl fun sdn sa sw sE sd sk => ?_
        have h46 : sa.eval (.tmp 46) = .int .u32 (u32i (ub L (((4 * k) + 2))).toUInt32) := sk.fact 23 46 rfl (sd 23 rfl)
        exact Runs.bin rfl h46 rfl (eqGuard_bin rfl) (bin_shl32 _ _ 8 _) ⟨Ext.refl _, rfl⟩
      · refine stepE rfl fun sdn sa sw sE sd sk => ?_
        have h39 : sa.eval (.tmp 39) = .int .u32 (u32i ((shl (ub L ((4 * k))).toUInt32 24) ||| (shl (ub L (((4 * k) + 1))).toUInt32 16))) := sk.fact 16 39 rfl (sd 16 rfl)
        have h47 : sa.eval (.tmp 47) = .int .u32 (u32i (shl (ub L (((4 * k) + 2))).toUInt32 8)) := sk.fact 24 47 rfl (sd 24 rfl)
        exact Runs.bin rfl h39 h47 (eqGuard_bin rfl) (bin_or32 _ _ _) ⟨Ext.refl _, rfl⟩
      · refine stepE rfl fun sdn sa sw sE sd sk => ?_
        have h2 : sa.eval (.tmp 2) = .slice (some ad) (64) (c) := sk.old 2 rfl
        exact Runs.move rfl h2 ⟨Ext.refl _, rfl⟩
      · refine stepE rfl fun sdn sa sw sE sd sk => ?_
        have h8 : sa.eval (.tmp 8) = .int .i64 ((k : Int)) := sk.old 8 rfl
        exact Runs.move rfl h8 ⟨Ext.refl _, rfl⟩
      · refine stepE rfl fun sdn sa sw sE sd sk => ?_
        have h50 : sa.eval (.tmp 50) = .int .i64 ((k : Int)) := sk.fact 27 50 rfl (sd 27 rfl)
        exact Runs.bin rfl rfl h50 (eqGuard_bin rfl) (bin_mul64 _ _ _ (by omega) (by omega)) ⟨Ext.refl _, rfl⟩
      · refine stepE rfl fun sdn sa sw sE sd sk => ?_
        have h51 : sa.eval (.tmp 51) = .int .i64 ((4 : Int) * (k : Int)) := sk.fact 28 51 rfl (sd 28 rfl)
        exact Runs.bin rfl h51 rfl (eqGuard_bin rfl) (bin_add64 _ _ _ (by omega) (by omega)) ⟨Ext.refl _, rfl⟩
      · refine stepE rfl fun sdn sa sw sE sd sk => ?_
        have h49 : sa.eval (.tmp 49) = .slice (some ad) (64) (c) := sk.fact 26 49 rfl (sd 26 rfl)
        have h52 : sa.eval (.tmp 52) = .int .i64 (((4 : Int) * (k : Int)) + (3 : Int)) := sk.fact 29 52 rfl (sd 29 rfl)
        exact Runs.idx rfl h49 h52 (run_idx_sl1 Tryz.underlying26 inf26_eq inf26_size (((4 * k) + 3)) (by omega) (by omega)) ⟨Ext.refl _, rfl⟩
      · refine stepE rfl fun sdn sa sw sE sd sk => ?_
        have h53 : sa.eval (.tmp 53) = .pointer (some (ad.add (((4 * k) + 3)))) := sk.fact 30 53 rfl (sd 30 rfl)
        exact Runs.load rfl h53 (run_load1 Tryz.underlying5 rfl (cell_at hcell (hEr.trans sE) (by omega))) ⟨Ext.refl _, rfl⟩
      · refine stepE rfl fun sdn sa sw sE sd sk => ?_
        have h54 : sa.eval (.tmp 54) = .int .u8 (u8i (ub L (((4 * k) + 3)))) := sk.fact 31 54 rfl (sd 31 rfl)
        exact Runs.conv rfl h54 (conv_u8_u32 Tryz.underlying5 Tryz.underlying56 _) ⟨Ext.refl _, rfl⟩
      · refine stepE rfl fun sdn sa sw sE sd sk => ?_
        have h48 : sa.eval (.tmp 48) = .int .u32 (u32i (((shl (ub L ((4 * k))).toUInt32 24) ||| (shl (ub L (((4 * k) + 1))).toUInt32 16)) ||| (shl (ub L (((4 * k) + 2))).toUInt32 8))) := sk.fact 25 48 rfl (sd 25 rfl)
        have h55 : sa.eval (.tmp 55) = .int .u32 (u32i (ub L (((4 * k) + 3))).toUInt32) := sk.fact 32 55 rfl (sd 32 rfl)
        exact Runs.bin rfl h48 h55 (eqGuard_bin rfl) (bin_or32 _ _ _) ⟨Ext.refl _, rfl⟩
      · refine stepE rfl fun sdn sa sw sE sd sk => ?_
        have h7 : sa.eval (.tmp 7) = .pointer (some ⟨w.heap.size + 1 + 1, 0, none⟩) := sk.old 7 rfl
        have h23 : sa.eval (.tmp 23) = .int .i64 ((k : Int)) := sk.fact 0 23 rfl (sd 0 rfl)
        exact Runs.idx rfl h7 h23 (run_idx_arr1 Tryz.underlying101 inf101_eq inf101_size (k) (by omega) (by omega)) ⟨Ext.refl _, rfl⟩
      ·
        intro vals W1 hE hv
        have e0 : vals 0 = .int .i64 ((k : Int)) := hv 0 (by omega) 23 rfl
        have e1 : vals 1 = .slice (some ad) (64) (c) := hv 1 (by omega) 24 rfl
        have e2 : vals 2 = .int .i64 ((k : Int)) := hv 2 (by omega) 25 rfl
        have e3 : vals 3 = .int .i64 ((4 : Int) * (k : Int)) := hv 3 (by omega) 26 rfl
        have e4 : vals 4 = .pointer (some (ad.add ((4 * k)))) := hv 4 (by omega) 27 rfl
        have e5 : vals 5 = .int .u8 (u8i (ub L ((4 * k)))) := hv 5 (by omega) 28 rfl
        have e6 : vals 6 = .int .u32 (u32i (ub L ((4 * k))).toUInt32) := hv 6 (by omega) 29 rfl
        have e7 : vals 7 = .int .u32 (u32i (shl (ub L ((4 * k))).toUInt32 24)) := hv 7 (by omega) 30 rfl
        have e8 : vals 8 = .slice (some ad) (64) (c) := hv 8 (by omega) 31 rfl
        have e9 : vals 9 = .int .i64 ((k : Int)) := hv 9 (by omega) 32 rfl
        have e10 : vals 10 = .int .i64 ((4 : Int) * (k : Int)) := hv 10 (by omega) 33 rfl
        have e11 : vals 11 = .int .i64 (((4 : Int) * (k : Int)) + (1 : Int)) := hv 11 (by omega) 34 rfl
        have e12 : vals 12 = .pointer (some (ad.add (((4 * k) + 1)))) := hv 12 (by omega) 35 rfl
        have e13 : vals 13 = .int .u8 (u8i (ub L (((4 * k) + 1)))) := hv 13 (by omega) 36 rfl
        have e14 : vals 14 = .int .u32 (u32i (ub L (((4 * k) + 1))).toUInt32) := hv 14 (by omega) 37 rfl
        have e15 : vals 15 = .int .u32 (u32i (shl (ub L (((4 * k) + 1))).toUInt32 16)) := hv 15 (by omega) 38 rfl
        have e16 : vals 16 = .int .u32 (u32i ((shl (ub L ((4 * k))).toUInt32 24) ||| (shl (ub L (((4 * k) + 1))).toUInt32 16))) := hv 16 (by omega) 39 rfl
        have e17 : vals 17 = .slice (some ad) (64) (c) := hv 17 (by omega) 40 rfl
        have e18 : vals 18 = .int .i64 ((k : Int)) := hv 18 (by omega) 41 rfl
        have e19 : vals 19 = .int .i64 ((4 : Int) * (k : Int)) := hv 19 (by omega) 42 rfl
        have e20 : vals 20 = .int .i64 (((4 : Int) * (k : Int)) + (2 : Int)) := hv 20 (by omega) 43 rfl
        have e21 : vals 21 = .pointer (some (ad.add (((4 * k) + 2)))) := hv 21 (by omega) 44 rfl
        have e22 : vals 22 = .int .u8 (u8i (ub L (((4 * k) + 2)))) := hv 22 (by omega) 45 rfl
        have e23 : vals 23 = .int .u32 (u32i (ub L (((4 * k) + 2))).toUInt32) := hv 23 (by omega) 46 rfl
        have e24 : vals 24 = .int .u32 (u32i (shl (ub L (((4 * k) + 2))).toUInt32 8)) := hv 24 (by omega) 47 rfl
        have e25 : vals 25 = .int .u32 (u32i (((shl (ub L ((4 * k))).toUInt32 24) ||| (shl (ub L (((4 * k) + 1))).toUInt32 16)) ||| (shl (ub L (((4 * k) + 2))).toUInt32 8))) := hv 25 (by omega) 48 rfl
        have e26 : vals 26 = .slice (some ad) (64) (c) := hv 26 (by omega) 49 rfl
        have e27 : vals 27 = .int .i64 ((k : Int)) := hv 27 (by omega) 50 rfl
        have e28 : vals 28 = .int .i64 ((4 : Int) * (k : Int)) := hv 28 (by omega) 51 rfl
        have e29 : vals 29 = .int .i64 (((4 : Int) * (k : Int)) + (3 : Int)) := hv 29 (by omega) 52 rfl
        have e30 : vals 30 = .pointer (some (ad.add (((4 * k) + 3)))) := hv 30 (by omega) 53 rfl
        have e31 : vals 31 = .int .u8 (u8i (ub L (((4 * k) + 3)))) := hv 31 (by omega) 54 rfl
        have e32 : vals 32 = .int .u32 (u32i (ub L (((4 * k) + 3))).toUInt32) := hv 32 (by omega) 55 rfl
        have e33 : vals 33 = .int .u32 (u32i ((((shl (ub L ((4 * k))).toUInt32 24) ||| (shl (ub L (((4 * k) + 1))).toUInt32 16)) ||| (shl (ub L (((4 * k) + 2))).toUInt32 8)) ||| (ub L (((4 * k) + 3))).toUInt32)) := hv 33 (by omega) 56 rfl
        have e34 : vals 34 = .pointer (some ⟨w.heap.size + 1 + 1, k, none⟩) := hv 34 (by omega) 57 rfl
        simp only [putAll, Act.put, List.take_succ_cons, List.take_zero, List.drop_succ_cons, List.drop_zero, List.drop_nil, List.take_nil, Nat.reduceAdd, List.setIfInBounds_toArray, List.set_cons_succ, List.set_cons_zero, e0, e1, e2, e3, e4, e5, e6, e7, e8, e9, e10, e11, e12, e13, e14, e15, e16, e17, e18, e19, e20, e21, e22, e23, e24, e25, e26, e27, e28, e29, e30, e31, e32, e33, e34]
        clear hv e0 e1 e2 e3 e4 e5 e6 e7 e8 e9 e10 e11 e12 e13 e14 e15 e16 e17 e18 e19 e20 e21 e22 e23 e24 e25 e26 e27 e28 e29 e30 e31 e32 e33 e34
        have y1 := (c7.ext hE).cell (i := k) (by rw [fillW_length]; omega)
        have y2 := (c7.ext hE).frozen k
        go_wp2_with fail
        go_roundw
        case rel =>
          refine ⟨k + 1, by omega, by go_num, (c3.ext hE).far (by dsimp only; omega) _, (c6.ext hE).far (by dsimp only; omega) _, ?_, (hEr.trans hE).set (by dsimp only; omega) _⟩
          have y3 := (c7.ext hE).set k (beAt L k)
          simp only [fillW, hlt, if_true]
          exact y3
        case measure => simp [intOf]; omega
    · obtain rfl : k = 16 := by omega
      clear hlt hk16
      go_wp2_with fail
      go_loopw [9] (fun i wr => ∃ k : Nat, 16 ≤ k ∧ k ≤ 64 ∧ i = .int .i64 k ∧ Arr wr w.heap.size 100 h ∧ Arr wr (w.heap.size + 1) 100 (List.replicate 8 0) ∧ Arr wr (w.heap.size + 1 + 1) 101 (fillW L k) ∧ Ext w wr) (fun i _ => 64 - (intOf i).toNat)
      case atStart => exact ⟨16, by omega, by omega, rfl, c3, c6, c7, hEr⟩
      case round =>
        obtain ⟨k, hk16, hk64, rfl, c3, c6, c7, hEr⟩ := hrel
        by_cases hlt : k < 64
        · go_upto_region 9 with (fail)
          refine par_ext (n := 10) (by kernel_rfl) [.is (.int .i64 ((k : Int))), .is (.int .i64 ((k : Int) - (15 : Int))), .is (.pointer (some ⟨w.heap.size + 1 + 1, (k - 15), none⟩)), .is (.int .u32 (u32i (uw (fillW L k) (k - 15)))), .is (.int .i64 ((k : Int))), .is (.int .i64 ((k : Int) - (2 : Int))), .is (.pointer (some ⟨w.heap.size + 1 + 1, (k - 2), none⟩)), .is (.int .u32 (u32i (uw (fillW L k) (k - 2)))), .is (.int .u32 (u32i (uw (fillW L k) (k - 15)))), .is (.int .u32 (u32i (uw (fillW L k) (k - 2))))] rfl ⟨?_, ?_, ?_, ?_, ?_, ?_, ?_, ?_, ?_, ?_, trivial⟩ ?_
          · refine stepE rfl fun sdn sa sw sE sd sk => ?_
            have h9 : sa.eval (.tmp 9) = .int .i64 ((k : Int)) := sk.old 9 rfl
            exact Runs.move rfl h9 ⟨Ext.refl _, rfl⟩
          · refine stepE rfl fun sdn sa sw sE sd sk => ?_
            have h62 : sa.eval (.tmp 62) = .int .i64 ((k : Int)) := sk.fact 0 62 rfl (sd 0 rfl)
            exact Runs.bin rfl h62 rfl (eqGuard_bin rfl) (bin_sub64 _ _ _ (by omega) (by omega)) ⟨Ext.refl _, rfl⟩
          · refine stepE rfl fun sdn sa sw sE sd sk => ?_
            have h7 : sa.eval (.tmp 7) = .pointer (some ⟨w.heap.size + 1 + 1, 0, none⟩) := sk.old 7 rfl
            have h63 : sa.eval (.tmp 63) = .int .i64 ((k : Int) - (15 : Int)) := sk.fact 1 63 rfl (sd 1 rfl)
            exact Runs.idx rfl h7 h63 (run_idx_arr1 Tryz.underlying101 inf101_eq inf101_size ((k - 15)) (by omega) (by omega)) ⟨Ext.refl _, rfl⟩
          · refine stepE rfl fun sdn sa sw sE sd sk => ?_
            have h64 : sa.eval (.tmp 64) = .pointer (some ⟨w.heap.size + 1 + 1, (k - 15), none⟩) := sk.fact 2 64 rfl (sd 2 rfl)
            exact Runs.load rfl h64 (run_load1 Tryz.underlying56 rfl ((c7.ext sE).cell (by rw [fillW_length]; omega))) ⟨Ext.refl _, rfl⟩
          · refine stepE rfl fun sdn sa sw sE sd sk => ?_
            have h9 : sa.eval (.tmp 9) = .int .i64 ((k : Int)) := sk.old 9 rfl
            exact Runs.move rfl h9 ⟨Ext.refl _, rfl⟩
          · refine stepE rfl fun sdn sa sw sE sd sk => ?_
            have h66 : sa.eval (.tmp 66) = .int .i64 ((k : Int)) := sk.fact 4 66 rfl (sd 4 rfl)
            exact Runs.bin rfl h66 rfl (eqGuard_bin rfl) (bin_sub64 _ _ _ (by omega) (by omega)) ⟨Ext.refl _, rfl⟩
          · refine stepE rfl fun sdn sa sw sE sd sk => ?_
            have h7 : sa.eval (.tmp 7) = .pointer (some ⟨w.heap.size + 1 + 1, 0, none⟩) := sk.old 7 rfl
            have h67 : sa.eval (.tmp 67) = .int .i64 ((k : Int) - (2 : Int)) := sk.fact 5 67 rfl (sd 5 rfl)
            exact Runs.idx rfl h7 h67 (run_idx_arr1 Tryz.underlying101 inf101_eq inf101_size ((k - 2)) (by omega) (by omega)) ⟨Ext.refl _, rfl⟩
          · refine stepE rfl fun sdn sa sw sE sd sk => ?_
            have h68 : sa.eval (.tmp 68) = .pointer (some ⟨w.heap.size + 1 + 1, (k - 2), none⟩) := sk.fact 6 68 rfl (sd 6 rfl)
            exact Runs.load rfl h68 (run_load1 Tryz.underlying56 rfl ((c7.ext sE).cell (by rw [fillW_length]; omega))) ⟨Ext.refl _, rfl⟩
          · refine stepE rfl fun sdn sa sw sE sd sk => ?_
            have h65 : sa.eval (.tmp 65) = .int .u32 (u32i (uw (fillW L k) (k - 15))) := sk.fact 3 65 rfl (sd 3 rfl)
            exact Runs.assign rfl h65 ⟨Ext.refl _, rfl⟩
          · refine stepE rfl fun sdn sa sw sE sd sk => ?_
            have h69 : sa.eval (.tmp 69) = .int .u32 (u32i (uw (fillW L k) (k - 2))) := sk.fact 7 69 rfl (sd 7 rfl)
            exact Runs.assign rfl h69 ⟨Ext.refl _, rfl⟩
          ·
            intro vals W1 hE1 hv1
            have e0 : vals 0 = .int .i64 ((k : Int)) := hv1 0 (by omega) 62 rfl
            have e1 : vals 1 = .int .i64 ((k : Int) - (15 : Int)) := hv1 1 (by omega) 63 rfl
            have e2 : vals 2 = .pointer (some ⟨w.heap.size + 1 + 1, (k - 15), none⟩) := hv1 2 (by omega) 64 rfl
            have e3 : vals 3 = .int .u32 (u32i (uw (fillW L k) (k - 15))) := hv1 3 (by omega) 65 rfl
            have e4 : vals 4 = .int .i64 ((k : Int)) := hv1 4 (by omega) 66 rfl
            have e5 : vals 5 = .int .i64 ((k : Int) - (2 : Int)) := hv1 5 (by omega) 67 rfl
            have e6 : vals 6 = .pointer (some ⟨w.heap.size + 1 + 1, (k - 2), none⟩) := hv1 6 (by omega) 68 rfl
            have e7 : vals 7 = .int .u32 (u32i (uw (fillW L k) (k - 2))) := hv1 7 (by omega) 69 rfl
            have e8 : vals 8 = .int .u32 (u32i (uw (fillW L k) (k - 15))) := hv1 8 (by omega) 10 rfl
            have e9 : vals 9 = .int .u32 (u32i (uw (fillW L k) (k - 2))) := hv1 9 (by omega) 11 rfl
            simp only [putAll, Act.put, List.take_succ_cons, List.take_zero, List.drop_succ_cons, List.drop_zero, List.drop_nil, List.take_nil, Nat.reduceAdd, List.setIfInBounds_toArray, List.set_cons_succ, List.set_cons_zero, e0, e1, e2, e3, e4, e5, e6, e7, e8, e9]
            clear hv1 e0 e1 e2 e3 e4 e5 e6 e7 e8 e9
            go_upto_region 10 with (fail)
            refine par_ext (n := 29) (by kernel_rfl) [.is (.int .i64 ((k : Int))), .is (.int .i64 ((k : Int))), .is (.int .i64 ((k : Int) - (16 : Int))), .is (.pointer (some ⟨w.heap.size + 1 + 1, (k - 16), none⟩)), .is (.int .u32 (u32i (uw (fillW L k) (k - 16)))), .is (.int .u32 (u32i (uw (fillW L k) (k - 15)))), .is (.int .u32 (u32i (rotr (uw (fillW L k) (k - 15)) 7))), .is (.int .u32 (u32i (uw (fillW L k) (k - 15)))), .is (.int .u32 (u32i (rotr (uw (fillW L k) (k - 15)) 18))), .is (.int .u32 (u32i ((rotr (uw (fillW L k) (k - 15)) 7) ^^^ (rotr (uw (fillW L k) (k - 15)) 18)))), .is (.int .u32 (u32i (uw (fillW L k) (k - 15)))), .is (.int .u32 (u32i (shr (uw (fillW L k) (k - 15)) 3))), .is (.int .u32 (u32i (((rotr (uw (fillW L k) (k - 15)) 7) ^^^ (rotr (uw (fillW L k) (k - 15)) 18)) ^^^ (shr (uw (fillW L k) (k - 15)) 3)))), .is (.int .u32 (u32i ((uw (fillW L k) (k - 16)) + (((rotr (uw (fillW L k) (k - 15)) 7) ^^^ (rotr (uw (fillW L k) (k - 15)) 18)) ^^^ (shr (uw (fillW L k) (k - 15)) 3))))), .is (.int .i64 ((k : Int))), .is (.int .i64 ((k : Int) - (7 : Int))), .is (.pointer (some ⟨w.heap.size + 1 + 1, (k - 7), none⟩)), .is (.int .u32 (u32i (uw (fillW L k) (k - 7)))), .is (.int .u32 (u32i (((uw (fillW L k) (k - 16)) + (((rotr (uw (fillW L k) (k - 15)) 7) ^^^ (rotr (uw (fillW L k) (k - 15)) 18)) ^^^ (shr (uw (fillW L k) (k - 15)) 3))) + (uw (fillW L k) (k - 7))))), .is (.int .u32 (u32i (uw (fillW L k) (k - 2)))), .is (.int .u32 (u32i (rotr (uw (fillW L k) (k - 2)) 17))), .is (.int .u32 (u32i (uw (fillW L k) (k - 2)))), .is (.int .u32 (u32i (rotr (uw (fillW L k) (k - 2)) 19))), .is (.int .u32 (u32i ((rotr (uw (fillW L k) (k - 2)) 17) ^^^ (rotr (uw (fillW L k) (k - 2)) 19)))), .is (.int .u32 (u32i (uw (fillW L k) (k - 2)))), .is (.int .u32 (u32i (shr (uw (fillW L k) (k - 2)) 10))), .is (.int .u32 (u32i (((rotr (uw (fillW L k) (k - 2)) 17) ^^^ (rotr (uw (fillW L k) (k - 2)) 19)) ^^^ (shr (uw (fillW L k) (k - 2)) 10)))), .is (.int .u32 (u32i ((((uw (fillW L k) (k - 16)) + (((rotr (uw (fillW L k) (k - 15)) 7) ^^^ (rotr (uw (fillW L k) (k - 15)) 18)) ^^^ (shr (uw (fillW L k) (k - 15)) 3))) + (uw (fillW L k) (k - 7))) + (((rotr (uw (fillW L k) (k - 2)) 17) ^^^ (rotr (uw (fillW L k) (k - 2)) 19)) ^^^ (shr (uw (fillW L k) (k - 2)) 10))))), .is (.pointer (some ⟨w.heap.size + 1 + 1, k, none⟩))] rfl ⟨?_, ?_, ?_, ?_, ?_, ?_, ?_, ?_, ?_, ?_, ?_, ?_, ?_, ?_, ?_, ?_, ?_, ?_, ?_, ?_, ?_, ?_, ?_, ?_, ?_, ?_, ?_, ?_, ?_, trivial⟩ ?_
            · refine stepE rfl fun sdn sa sw sE sd sk => ?_
              have h9 : sa.eval (.tmp 9) = .int .i64 ((k : Int)) := sk.old 9 rfl
              exact Runs.move rfl h9 ⟨Ext.refl _, rfl⟩
            · refine stepE rfl fun sdn sa sw sE sd sk => ?_
              have h9 : sa.eval (.tmp 9) = .int .i64 ((k : Int)) := sk.old 9 rfl
              exact Runs.move rfl h9 ⟨Ext.refl _, rfl⟩
            · refine stepE rfl fun sdn sa sw sE sd sk => ?_
              have h71 : sa.eval (.tmp 71) = .int .i64 ((k : Int)) := sk.fact 1 71 rfl (sd 1 rfl)
              exact Runs.bin rfl h71 rfl (eqGuard_bin rfl) (bin_sub64 _ _ _ (by omega) (by omega)) ⟨Ext.refl _, rfl⟩
            · refine stepE rfl fun sdn sa sw sE sd sk => ?_
              have h7 : sa.eval (.tmp 7) = .pointer (some ⟨w.heap.size + 1 + 1, 0, none⟩) := sk.old 7 rfl
              have h72 : sa.eval (.tmp 72) = .int .i64 ((k : Int) - (16 : Int)) := sk.fact 2 72 rfl (sd 2 rfl)
              exact Runs.idx rfl h7 h72 (run_idx_arr1 Tryz.underlying101 inf101_eq inf101_size ((k - 16)) (by omega) (by omega)) ⟨Ext.refl _, rfl⟩
            · refine stepE rfl fun sdn sa sw sE sd sk => ?_
              have h73 : sa.eval (.tmp 73) = .pointer (some ⟨w.heap.size + 1 + 1, (k - 16), none⟩) := sk.fact 3 73 rfl (sd 3 rfl)
              exact Runs.load rfl h73 (run_load1 Tryz.underlying56 rfl (((c7.ext hE1).ext sE).cell (by rw [fillW_length]; omega))) ⟨Ext.refl _, rfl⟩
            · refine stepE rfl fun sdn sa sw sE sd sk => ?_
              have h10 : sa.eval (.tmp 10) = .int .u32 (u32i (uw (fillW L k) (k - 15))) := sk.old 10 rfl
              exact Runs.move rfl h10 ⟨Ext.refl _, rfl⟩
            · refine stepE rfl fun sdn sa sw sE sd sk => ?_
              have h75 : sa.eval (.tmp 75) = .int .u32 (u32i (uw (fillW L k) (k - 15))) := sk.fact 5 75 rfl (sd 5 rfl)
              refine Runs.call (f := 82) (vs := [.int .u32 (u32i (uw (fillW L k) (k - 15))), .int .u64 ((7 : Int))]) rfl rfl rfl (by simp only [List.map_toArray, List.map_cons, List.map_nil, h75] <;> rfl) (ent82 _ _) ((turn_any (uw (fillW L k) (k - 15)) 7 _ sw rfl (by omega) (by omega)).mono ?_); rintro e w' ⟨rfl, hx⟩; exact ⟨_, rfl, hx, rfl⟩
            · refine stepE rfl fun sdn sa sw sE sd sk => ?_
              have h10 : sa.eval (.tmp 10) = .int .u32 (u32i (uw (fillW L k) (k - 15))) := sk.old 10 rfl
              exact Runs.move rfl h10 ⟨Ext.refl _, rfl⟩
            · refine stepE rfl fun sdn sa sw sE sd sk => ?_
              have h77 : sa.eval (.tmp 77) = .int .u32 (u32i (uw (fillW L k) (k - 15))) := sk.fact 7 77 rfl (sd 7 rfl)
              refine Runs.call (f := 82) (vs := [.int .u32 (u32i (uw (fillW L k) (k - 15))), .int .u64 ((18 : Int))]) rfl rfl rfl (by simp only [List.map_toArray, List.map_cons, List.map_nil, h77] <;> rfl) (ent82 _ _) ((turn_any (uw (fillW L k) (k - 15)) 18 _ sw rfl (by omega) (by omega)).mono ?_); rintro e w' ⟨rfl, hx⟩; exact ⟨_, rfl, hx, rfl⟩
            · refine stepE rfl fun sdn sa sw sE sd sk => ?_
              have h76 : sa.eval (.tmp 76) = .int .u32 (u32i (rotr (uw (fillW L k) (k - 15)) 7)) := sk.fact 6 76 rfl (sd 6 rfl)
              have h78 : sa.eval (.tmp 78) = .int .u32 (u32i (rotr (uw (fillW L k) (k - 15)) 18)) := sk.fact 8 78 rfl (sd 8 rfl)
              exact Runs.bin rfl h76 h78 (eqGuard_bin rfl) (bin_xor32 _ _ _) ⟨Ext.refl _, rfl⟩
            · refine stepE rfl fun sdn sa sw sE sd sk => ?_
              have h10 : sa.eval (.tmp 10) = .int .u32 (u32i (uw (fillW L k) (k - 15))) := sk.old 10 rfl
              exact Runs.move rfl h10 ⟨Ext.refl _, rfl⟩
            · refine stepE rfl fun sdn sa sw sE sd sk => ?_
              have h80 : sa.eval (.tmp 80) = .int .u32 (u32i (uw (fillW L k) (k - 15))) := sk.fact 10 80 rfl (sd 10 rfl)
              exact Runs.bin rfl h80 rfl (eqGuard_bin rfl) (bin_shr32 _ _ 3 _) ⟨Ext.refl _, rfl⟩
            · refine stepE rfl fun sdn sa sw sE sd sk => ?_
              have h79 : sa.eval (.tmp 79) = .int .u32 (u32i ((rotr (uw (fillW L k) (k - 15)) 7) ^^^ (rotr (uw (fillW L k) (k - 15)) 18))) := sk.fact 9 79 rfl (sd 9 rfl)
              have h81 : sa.eval (.tmp 81) = .int .u32 (u32i (shr (uw (fillW L k) (k - 15)) 3)) := sk.fact 11 81 rfl (sd 11 rfl)
              exact Runs.bin rfl h79 h81 (eqGuard_bin rfl) (bin_xor32 _ _ _) ⟨Ext.refl _, rfl⟩
            · refine stepE rfl fun sdn sa sw sE sd sk => ?_
              have h74 : sa.eval (.tmp 74) = .int .u32 (u32i (uw (fillW L k) (k - 16))) := sk.fact 4 74 rfl (sd 4 rfl)
              have h82 : sa.eval (.tmp 82) = .int .u32 (u32i (((rotr (uw (fillW L k) (k - 15)) 7) ^^^ (rotr (uw (fillW L k) (k - 15)) 18)) ^^^ (shr (uw (fillW L k) (k - 15)) 3))) := sk.fact 12 82 rfl (sd 12 rfl)
              exact Runs.bin rfl h74 h82 (eqGuard_bin rfl) (bin_add32 _ _ _) ⟨Ext.refl _, rfl⟩
            · refine stepE rfl fun sdn sa sw sE sd sk => ?_
              have h9 : sa.eval (.tmp 9) = .int .i64 ((k : Int)) := sk.old 9 rfl
              exact Runs.move rfl h9 ⟨Ext.refl _, rfl⟩
            · refine stepE rfl fun sdn sa sw sE sd sk => ?_
              have h84 : sa.eval (.tmp 84) = .int .i64 ((k : Int)) := sk.fact 14 84 rfl (sd 14 rfl)
              exact Runs.bin rfl h84 rfl (eqGuard_bin rfl) (bin_sub64 _ _ _ (by omega) (by omega)) ⟨Ext.refl _, rfl⟩
            · refine stepE rfl fun sdn sa sw sE sd sk => ?_
              have h7 : sa.eval (.tmp 7) = .pointer (some ⟨w.heap.size + 1 + 1, 0, none⟩) := sk.old 7 rfl
              have h85 : sa.eval (.tmp 85) = .int .i64 ((k : Int) - (7 : Int)) := sk.fact 15 85 rfl (sd 15 rfl)
              exact Runs.idx rfl h7 h85 (run_idx_arr1 Tryz.underlying101 inf101_eq inf101_size ((k - 7)) (by omega) (by omega)) ⟨Ext.refl _, rfl⟩
            · refine stepE rfl fun sdn sa sw sE sd sk => ?_
              have h86 : sa.eval (.tmp 86) = .pointer (some ⟨w.heap.size + 1 + 1, (k - 7), none⟩) := sk.fact 16 86 rfl (sd 16 rfl)
              exact Runs.load rfl h86 (run_load1 Tryz.underlying56 rfl (((c7.ext hE1).ext sE).cell (by rw [fillW_length]; omega))) ⟨Ext.refl _, rfl⟩
            · refine stepE rfl fun sdn sa sw sE sd sk => ?_
              have h83 : sa.eval (.tmp 83) = .int .u32 (u32i ((uw (fillW L k) (k - 16)) + (((rotr (uw (fillW L k) (k - 15)) 7) ^^^ (rotr (uw (fillW L k) (k - 15)) 18)) ^^^ (shr (uw (fillW L k) (k - 15)) 3)))) := sk.fact 13 83 rfl (sd 13 rfl)
              have h87 : sa.eval (.tmp 87) = .int .u32 (u32i (uw (fillW L k) (k - 7))) := sk.fact 17 87 rfl (sd 17 rfl)
              exact Runs.bin rfl h83 h87 (eqGuard_bin rfl) (bin_add32 _ _ _) ⟨Ext.refl _, rfl⟩
            · refine stepE rfl fun sdn sa sw sE sd sk => ?_
              have h11 : sa.eval (.tmp 11) = .int .u32 (u32i (uw (fillW L k) (k - 2))) := sk.old 11 rfl
              exact Runs.move rfl h11 ⟨Ext.refl _, rfl⟩
            · refine stepE rfl fun sdn sa sw sE sd sk => ?_
              have h89 : sa.eval (.tmp 89) = .int .u32 (u32i (uw (fillW L k) (k - 2))) := sk.fact 19 89 rfl (sd 19 rfl)
              refine Runs.call (f := 82) (vs := [.int .u32 (u32i (uw (fillW L k) (k - 2))), .int .u64 ((17 : Int))]) rfl rfl rfl (by simp only [List.map_toArray, List.map_cons, List.map_nil, h89] <;> rfl) (ent82 _ _) ((turn_any (uw (fillW L k) (k - 2)) 17 _ sw rfl (by omega) (by omega)).mono ?_); rintro e w' ⟨rfl, hx⟩; exact ⟨_, rfl, hx, rfl⟩
            · refine stepE rfl fun sdn sa sw sE sd sk => ?_
              have h11 : sa.eval (.tmp 11) = .int .u32 (u32i (uw (fillW L k) (k - 2))) := sk.old 11 rfl
              exact Runs.move rfl h11 ⟨Ext.refl _, rfl⟩
            · refine stepE rfl fun sdn sa sw sE sd sk => ?_
              have h91 : sa.eval (.tmp 91) = .int .u32 (u32i (uw (fillW L k) (k - 2))) := sk.fact 21 91 rfl (sd 21 rfl)
              refine Runs.call (f := 82) (vs := [.int .u32 (u32i (uw (fillW L k) (k - 2))), .int .u64 ((19 : Int))]) rfl rfl rfl (by simp only [List.map_toArray, List.map_cons, List.map_nil, h91] <;> rfl) (ent82 _ _) ((turn_any (uw (fillW L k) (k - 2)) 19 _ sw rfl (by omega) (by omega)).mono ?_); rintro e w' ⟨rfl, hx⟩; exact ⟨_, rfl, hx, rfl⟩
            · refine stepE rfl fun sdn sa sw sE sd sk => ?_
              have h90 : sa.eval (.tmp 90) = .int .u32 (u32i (rotr (uw (fillW L k) (k - 2)) 17)) := sk.fact 20 90 rfl (sd 20 rfl)
              have h92 : sa.eval (.tmp 92) = .int .u32 (u32i (rotr (uw (fillW L k) (k - 2)) 19)) := sk.fact 22 92 rfl (sd 22 rfl)
              exact Runs.bin rfl h90 h92 (eqGuard_bin rfl) (bin_xor32 _ _ _) ⟨Ext.refl _, rfl⟩
            · refine stepE rfl fun sdn sa sw sE sd sk => ?_
              have h11 : sa.eval (.tmp 11) = .int .u32 (u32i (uw (fillW L k) (k - 2))) := sk.old 11 rfl
              exact Runs.move rfl h11 ⟨Ext.refl _, rfl⟩
            · refine stepE rfl fun sdn sa sw sE sd sk => ?_
              have h94 : sa.eval (.tmp 94) = .int .u32 (u32i (uw (fillW L k) (k - 2))) := sk.fact 24 94 rfl (sd 24 rfl)
              exact Runs.bin rfl h94 rfl (eqGuard_bin rfl) (bin_shr32 _ _ 10 _) ⟨Ext.refl _, rfl⟩
            · refine stepE rfl fun sdn sa sw sE sd sk => ?_
              have h93 : sa.eval (.tmp 93) = .int .u32 (u32i ((rotr (uw (fillW L k) (k - 2)) 17) ^^^ (rotr (uw (fillW L k) (k - 2)) 19))) := sk.fact 23 93 rfl (sd 23 rfl)
              have h95 : sa.eval (.tmp 95) = .int .u32 (u32i (shr (uw (fillW L k) (k - 2)) 10)) := sk.fact 25 95 rfl (sd 25 rfl)
              exact Runs.bin rfl h93 h95 (eqGuard_bin rfl) (bin_xor32 _ _ _) ⟨Ext.refl _, rfl⟩
            · refine stepE rfl fun sdn sa sw sE sd sk => ?_
              have h88 : sa.eval (.tmp 88) = .int .u32 (u32i (((uw (fillW L k) (k - 16)) + (((rotr (uw (fillW L k) (k - 15)) 7) ^^^ (rotr (uw (fillW L k) (k - 15)) 18)) ^^^ (shr (uw (fillW L k) (k - 15)) 3))) + (uw (fillW L k) (k - 7)))) := sk.fact 18 88 rfl (sd 18 rfl)
              have h96 : sa.eval (.tmp 96) = .int .u32 (u32i (((rotr (uw (fillW L k) (k - 2)) 17) ^^^ (rotr (uw (fillW L k) (k - 2)) 19)) ^^^ (shr (uw (fillW L k) (k - 2)) 10))) := sk.fact 26 96 rfl (sd 26 rfl)
              exact Runs.bin rfl h88 h96 (eqGuard_bin rfl) (bin_add32 _ _ _) ⟨Ext.refl _, rfl⟩
            · refine stepE rfl fun sdn sa sw sE sd sk => ?_
              have h7 : sa.eval (.tmp 7) = .pointer (some ⟨w.heap.size + 1 + 1, 0, none⟩) := sk.old 7 rfl
              have h70 : sa.eval (.tmp 70) = .int .i64 ((k : Int)) := sk.fact 0 70 rfl (sd 0 rfl)
              exact Runs.idx rfl h7 h70 (run_idx_arr1 Tryz.underlying101 inf101_eq inf101_size (k) (by omega) (by omega)) ⟨Ext.refl _, rfl⟩
            ·
              intro vals W2 hE2 hv2
              have e0 : vals 0 = .int .i64 ((k : Int)) := hv2 0 (by omega) 70 rfl
              have e1 : vals 1 = .int .i64 ((k : Int)) := hv2 1 (by omega) 71 rfl
              have e2 : vals 2 = .int .i64 ((k : Int) - (16 : Int)) := hv2 2 (by omega) 72 rfl
              have e3 : vals 3 = .pointer (some ⟨w.heap.size + 1 + 1, (k - 16), none⟩) := hv2 3 (by omega) 73 rfl
              have e4 : vals 4 = .int .u32 (u32i (uw (fillW L k) (k - 16))) := hv2 4 (by omega) 74 rfl
              have e5 : vals 5 = .int .u32 (u32i (uw (fillW L k) (k - 15))) := hv2 5 (by omega) 75 rfl
              have e6 : vals 6 = .int .u32 (u32i (rotr (uw (fillW L k) (k - 15)) 7)) := hv2 6 (by omega) 76 rfl
              have e7 : vals 7 = .int .u32 (u32i (uw (fillW L k) (k - 15))) := hv2 7 (by omega) 77 rfl
              have e8 : vals 8 = .int .u32 (u32i (rotr (uw (fillW L k) (k - 15)) 18)) := hv2 8 (by omega) 78 rfl
              have e9 : vals 9 = .int .u32 (u32i ((rotr (uw (fillW L k) (k - 15)) 7) ^^^ (rotr (uw (fillW L k) (k - 15)) 18))) := hv2 9 (by omega) 79 rfl
              have e10 : vals 10 = .int .u32 (u32i (uw (fillW L k) (k - 15))) := hv2 10 (by omega) 80 rfl
              have e11 : vals 11 = .int .u32 (u32i (shr (uw (fillW L k) (k - 15)) 3)) := hv2 11 (by omega) 81 rfl
              have e12 : vals 12 = .int .u32 (u32i (((rotr (uw (fillW L k) (k - 15)) 7) ^^^ (rotr (uw (fillW L k) (k - 15)) 18)) ^^^ (shr (uw (fillW L k) (k - 15)) 3))) := hv2 12 (by omega) 82 rfl
              have e13 : vals 13 = .int .u32 (u32i ((uw (fillW L k) (k - 16)) + (((rotr (uw (fillW L k) (k - 15)) 7) ^^^ (rotr (uw (fillW L k) (k - 15)) 18)) ^^^ (shr (uw (fillW L k) (k - 15)) 3)))) := hv2 13 (by omega) 83 rfl
              have e14 : vals 14 = .int .i64 ((k : Int)) := hv2 14 (by omega) 84 rfl
              have e15 : vals 15 = .int .i64 ((k : Int) - (7 : Int)) := hv2 15 (by omega) 85 rfl
              have e16 : vals 16 = .pointer (some ⟨w.heap.size + 1 + 1, (k - 7), none⟩) := hv2 16 (by omega) 86 rfl
              have e17 : vals 17 = .int .u32 (u32i (uw (fillW L k) (k - 7))) := hv2 17 (by omega) 87 rfl
              have e18 : vals 18 = .int .u32 (u32i (((uw (fillW L k) (k - 16)) + (((rotr (uw (fillW L k) (k - 15)) 7) ^^^ (rotr (uw (fillW L k) (k - 15)) 18)) ^^^ (shr (uw (fillW L k) (k - 15)) 3))) + (uw (fillW L k) (k - 7)))) := hv2 18 (by omega) 88 rfl
              have e19 : vals 19 = .int .u32 (u32i (uw (fillW L k) (k - 2))) := hv2 19 (by omega) 89 rfl
              have e20 : vals 20 = .int .u32 (u32i (rotr (uw (fillW L k) (k - 2)) 17)) := hv2 20 (by omega) 90 rfl
              have e21 : vals 21 = .int .u32 (u32i (uw (fillW L k) (k - 2))) := hv2 21 (by omega) 91 rfl
              have e22 : vals 22 = .int .u32 (u32i (rotr (uw (fillW L k) (k - 2)) 19)) := hv2 22 (by omega) 92 rfl
              have e23 : vals 23 = .int .u32 (u32i ((rotr (uw (fillW L k) (k - 2)) 17) ^^^ (rotr (uw (fillW L k) (k - 2)) 19))) := hv2 23 (by omega) 93 rfl
              have e24 : vals 24 = .int .u32 (u32i (uw (fillW L k) (k - 2))) := hv2 24 (by omega) 94 rfl
              have e25 : vals 25 = .int .u32 (u32i (shr (uw (fillW L k) (k - 2)) 10)) := hv2 25 (by omega) 95 rfl
              have e26 : vals 26 = .int .u32 (u32i (((rotr (uw (fillW L k) (k - 2)) 17) ^^^ (rotr (uw (fillW L k) (k - 2)) 19)) ^^^ (shr (uw (fillW L k) (k - 2)) 10))) := hv2 26 (by omega) 96 rfl
              have e27 : vals 27 = .int .u32 (u32i ((((uw (fillW L k) (k - 16)) + (((rotr (uw (fillW L k) (k - 15)) 7) ^^^ (rotr (uw (fillW L k) (k - 15)) 18)) ^^^ (shr (uw (fillW L k) (k - 15)) 3))) + (uw (fillW L k) (k - 7))) + (((rotr (uw (fillW L k) (k - 2)) 17) ^^^ (rotr (uw (fillW L k) (k - 2)) 19)) ^^^ (shr (uw (fillW L k) (k - 2)) 10)))) := hv2 27 (by omega) 97 rfl
              have e28 : vals 28 = .pointer (some ⟨w.heap.size + 1 + 1, k, none⟩) := hv2 28 (by omega) 98 rfl
              simp only [putAll, Act.put, List.take_succ_cons, List.take_zero, List.drop_succ_cons, List.drop_zero, List.drop_nil, List.take_nil, Nat.reduceAdd, List.setIfInBounds_toArray, List.set_cons_succ, List.set_cons_zero, e0, e1, e2, e3, e4, e5, e6, e7, e8, e9, e10, e11, e12, e13, e14, e15, e16, e17, e18, e19, e20, e21, e22, e23, e24, e25, e26, e27, e28]
              clear hv2 e0 e1 e2 e3 e4 e5 e6 e7 e8 e9 e10 e11 e12 e13 e14 e15 e16 e17 e18 e19 e20 e21 e22 e23 e24 e25 e26 e27 e28
              have hEE := hE1.trans hE2
              have y1 := (c7.ext hEE).cell (i := k) (by rw [fillW_length]; omega)
              have y2 := (c7.ext hEE).frozen k
              go_wp2_with fail
              go_roundw
              case rel =>
                refine ⟨k + 1, by omega, by omega, by go_num, (c3.ext hEE).far (by dsimp only; omega) _, (c6.ext hEE).far (by dsimp only; omega) _, ?_, (hEr.trans hEE).set (by dsimp only; omega) _⟩
                have y3 := (c7.ext hEE).set k (nextW (fillW L k) k)
                simp only [fillW, if_neg (show ¬ k < 16 by omega)]
                exact y3
              case measure => simp [intOf]; omega
        · obtain rfl : k = 64 := by omega
          clear hlt hk16 hk64
          go_upto_region 11 with (fail)
          refine wp_region_lit ?_
          refine ldrow_law rfl rfl rfl c3 Tryz.underlying100 row8_map Hh.out ?_
          go_wp2_with (refine strow_law (l' := h) rfl rfl rfl rfl (Arr.new wr 100 (List.replicate 8 0)) row8_eq (row8_size.trans Hh.out.symm) (Hh.out.trans rfl) ?_; intro W4 s12 g12 z12)
          have hE4 : Ext wr W4 := (Ext.new wr _).then_grown g12 (by intro k hk; cases hk; exact Nat.le_refl _)
          have hlt7 := c7.lt
          clear g12 z12
          generalize wr.heap.size = gs at *
          go_loopw [13] (fun i wr => ∃ k : Nat, k ≤ 64 ∧ i = .int .i64 k ∧ Arr wr w.heap.size 100 h ∧ Arr wr (w.heap.size + 1) 100 (List.replicate 8 0) ∧ Arr wr (w.heap.size + 1 + 1) 101 (fillW L 64) ∧ Arr wr gs 100 (roundsS (S8.of h) (fillW L 64) k).list ∧ Ext w wr) (fun i _ => 64 - (intOf i).toNat)
          case atStart => exact ⟨0, by omega, rfl, c3.ext hE4, c6.ext hE4, c7.ext hE4, by rw [show (roundsS (S8.of h) (fillW L 64) 0).list = h from S8.of_list h Hh.out]; exact s12, hEr.trans hE4⟩
          case round =>
            clear c3 c6 c7 hEr hE4 s12
            obtain ⟨k, hk64, rfl, c3, c6, c7, c12, hEr⟩ := hrel
            by_cases hlt : k < 64
            · obtain ⟨s, hs⟩ : ∃ s, s = roundsS (S8.of h) (fillW L 64) k := ⟨_, rfl⟩
              rw [← hs] at c12
              have Hs := Lib.hid hs
              clear hs
              go_upto_region 15 with (fail)
              refine par_ext (n := 6) (by kernel_rfl) [.is (.pointer (some ⟨gs, 0, none⟩)), .is (.int .u32 (u32i (s).a)), .is (.pointer (some ⟨gs, 4, none⟩)), .is (.int .u32 (u32i (s).e)), .is (.int .u32 (u32i (s).a)), .is (.int .u32 (u32i (s).e))] rfl ⟨?_, ?_, ?_, ?_, ?_, ?_, trivial⟩ ?_
              · refine stepE rfl fun sdn sa sw sE sd sk => ?_
                have h12 : sa.eval (.tmp 12) = .pointer (some ⟨gs, 0, none⟩) := sk.old 12 rfl
                exact Runs.idx rfl h12 rfl (run_idx_arr1 Tryz.underlying100 inf100_eq inf100_size (0) (by omega) (by omega)) ⟨Ext.refl _, rfl⟩
              · refine stepE rfl fun sdn sa sw sE sd sk => ?_
                have h104 : sa.eval (.tmp 104) = .pointer (some ⟨gs, 0, none⟩) := sk.fact 0 104 rfl (sd 0 rfl)
                exact Runs.load rfl h104 (run_load1 Tryz.underlying56 rfl ((c12.ext sE).cell (by rw [S8.list_length]; omega))) ⟨Ext.refl _, rfl⟩
              · refine stepE rfl fun sdn sa sw sE sd sk => ?_
                have h12 : sa.eval (.tmp 12) = .pointer (some ⟨gs, 0, none⟩) := sk.old 12 rfl
                exact Runs.idx rfl h12 rfl (run_idx_arr1 Tryz.underlying100 inf100_eq inf100_size (4) (by omega) (by omega)) ⟨Ext.refl _, rfl⟩
              · refine stepE rfl fun sdn sa sw sE sd sk => ?_
                have h106 : sa.eval (.tmp 106) = .pointer (some ⟨gs, 4, none⟩) := sk.fact 2 106 rfl (sd 2 rfl)
                exact Runs.load rfl h106 (run_load1 Tryz.underlying56 rfl ((c12.ext sE).cell (by rw [S8.list_length]; omega))) ⟨Ext.refl _, rfl⟩
              · refine stepE rfl fun sdn sa sw sE sd sk => ?_
                have h105 : sa.eval (.tmp 105) = .int .u32 (u32i (s).a) := sk.fact 1 105 rfl (sd 1 rfl)
                exact Runs.assign rfl h105 ⟨Ext.refl _, rfl⟩
              · refine stepE rfl fun sdn sa sw sE sd sk => ?_
                have h107 : sa.eval (.tmp 107) = .int .u32 (u32i (s).e) := sk.fact 3 107 rfl (sd 3 rfl)
                exact Runs.assign rfl h107 ⟨Ext.refl _, rfl⟩
              ·
                intro vals W1 hE1 hv1
                have e0 : vals 0 = .pointer (some ⟨gs, 0, none⟩) := hv1 0 (by omega) 104 rfl
                have e1 : vals 1 = .int .u32 (u32i (s).a) := hv1 1 (by omega) 105 rfl
                have e2 : vals 2 = .pointer (some ⟨gs, 4, none⟩) := hv1 2 (by omega) 106 rfl
                have e3 : vals 3 = .int .u32 (u32i (s).e) := hv1 3 (by omega) 107 rfl
                have e4 : vals 4 = .int .u32 (u32i (s).a) := hv1 4 (by omega) 14 rfl
                have e5 : vals 5 = .int .u32 (u32i (s).e) := hv1 5 (by omega) 15 rfl
                simp only [putAll, Act.put, List.take_succ_cons, List.take_zero, List.drop_succ_cons, List.drop_zero, List.drop_nil, List.take_nil, Nat.reduceAdd, List.setIfInBounds_toArray, List.set_cons_succ, List.set_cons_zero, e0, e1, e2, e3, e4, e5]
                clear hv1 e0 e1 e2 e3 e4 e5
                go_upto_region 16 with (fail)
                refine par_ext (n := 33) (by kernel_rfl) [.is (.pointer (some ⟨gs, 7, none⟩)), .is (.int .u32 (u32i (s).h)), .is (.int .u32 (u32i (s.e))), .is (.int .u32 (u32i (rotr s.e 6))), .is (.int .u32 (u32i (s.e))), .is (.int .u32 (u32i (rotr s.e 11))), .is (.int .u32 (u32i ((rotr s.e 6) ^^^ (rotr s.e 11)))), .is (.int .u32 (u32i (s.e))), .is (.int .u32 (u32i (rotr s.e 25))), .is (.int .u32 (u32i (((rotr s.e 6) ^^^ (rotr s.e 11)) ^^^ (rotr s.e 25)))), .is (.int .u32 (u32i ((s).h + (((rotr s.e 6) ^^^ (rotr s.e 11)) ^^^ (rotr s.e 25))))), .is (.int .u32 (u32i (s.e))), .is (.pointer (some ⟨gs, 5, none⟩)), .is (.int .u32 (u32i (s).f)), .is (.int .u32 (u32i (s.e &&& (s).f))), .is (.int .u32 (u32i (s.e))), .is (.int .u32 (u32i (~~~s.e))), .is (.pointer (some ⟨gs, 6, none⟩)), .is (.int .u32 (u32i (s).g)), .is (.int .u32 (u32i ((~~~s.e) &&& (s).g))), .is (.int .u32 (u32i ((s.e &&& (s).f) ^^^ ((~~~s.e) &&& (s).g)))), .is (.int .u32 (u32i (((s).h + (((rotr s.e 6) ^^^ (rotr s.e 11)) ^^^ (rotr s.e 25))) + ((s.e &&& (s).f) ^^^ ((~~~s.e) &&& (s).g))))), .is (.pointer (some ⟨g4, 0, none⟩)), .is (.int .i64 ((k : Int))), .is (.pointer (some ⟨g4, 0, none⟩)), .is (.pointer (some ⟨g4, k, none⟩)), .is (.int .u32 (u32i (uw shaK k))), .is (.int .u32 (u32i ((((s).h + (((rotr s.e 6) ^^^ (rotr s.e 11)) ^^^ (rotr s.e 25))) + ((s.e &&& (s).f) ^^^ ((~~~s.e) &&& (s).g))) + (uw shaK k)))), .is (.int .i64 ((k : Int))), .is (.pointer (some ⟨w.heap.size + 1 + 1, k, none⟩)), .is (.int .u32 (u32i (uw (fillW L 64) k))), .is (.int .u32 (u32i (((((s).h + (((rotr s.e 6) ^^^ (rotr s.e 11)) ^^^ (rotr s.e 25))) + ((s.e &&& (s).f) ^^^ ((~~~s.e) &&& (s).g))) + (uw shaK k)) + (uw (fillW L 64) k)))), .is (.int .u32 (u32i (((((s).h + (((rotr s.e 6) ^^^ (rotr s.e 11)) ^^^ (rotr s.e 25))) + ((s.e &&& (s).f) ^^^ ((~~~s.e) &&& (s).g))) + (uw shaK k)) + (uw (fillW L 64) k))))] rfl ⟨?_, ?_, ?_, ?_, ?_, ?_, ?_, ?_, ?_, ?_, ?_, ?_, ?_, ?_, ?_, ?_, ?_, ?_, ?_, ?_, ?_, ?_, ?_, ?_, ?_, ?_, ?_, ?_, ?_, ?_, ?_, ?_, ?_, trivial⟩ ?_
                · refine stepE rfl fun sdn sa sw sE sd sk => ?_
                  have h12 : sa.eval (.tmp 12) = .pointer (some ⟨gs, 0, none⟩) := sk.old 12 rfl
                  exact Runs.idx rfl h12 rfl (run_idx_arr1 Tryz.underlying100 inf100_eq inf100_size (7) (by omega) (by omega)) ⟨Ext.refl _, rfl⟩
                · refine stepE rfl fun sdn sa sw sE sd sk => ?_
                  have h108 : sa.eval (.tmp 108) = .pointer (some ⟨gs, 7, none⟩) := sk.fact 0 108 rfl (sd 0 rfl)
                  exact Runs.load rfl h108 (run_load1 Tryz.underlying56 rfl (((c12.ext hE1).ext sE).cell (by rw [S8.list_length]; omega))) ⟨Ext.refl _, rfl⟩
                · refine stepE rfl fun sdn sa sw sE sd sk => ?_
                  have h15 : sa.eval (.tmp 15) = .int .u32 (u32i (s.e)) := sk.old 15 rfl
                  exact Runs.move rfl h15 ⟨Ext.refl _, rfl⟩
                · refine stepE rfl fun sdn sa sw sE sd sk => ?_
                  have h110 : sa.eval (.tmp 110) = .int .u32 (u32i (s.e)) := sk.fact 2 110 rfl (sd 2 rfl)
                  refine Runs.call (f := 82) (vs := [.int .u32 (u32i (s.e)), .int .u64 ((6 : Int))]) rfl rfl rfl (by simp only [List.map_toArray, List.map_cons, List.map_nil, h110] <;> rfl) (ent82 _ _) ((turn_any s.e 6 _ sw rfl (by omega) (by omega)).mono ?_); rintro e w' ⟨rfl, hx⟩; exact ⟨_, rfl, hx, rfl⟩
                · refine stepE rfl fun sdn sa sw sE sd sk => ?_
                  have h15 : sa.eval (.tmp 15) = .int .u32 (u32i (s.e)) := sk.old 15 rfl
                  exact Runs.move rfl h15 ⟨Ext.refl _, rfl⟩
                · refine stepE rfl fun sdn sa sw sE sd sk => ?_
                  have h112 : sa.eval (.tmp 112) = .int .u32 (u32i (s.e)) := sk.fact 4 112 rfl (sd 4 rfl)
                  refine Runs.call (f := 82) (vs := [.int .u32 (u32i (s.e)), .int .u64 ((11 : Int))]) rfl rfl rfl (by simp only [List.map_toArray, List.map_cons, List.map_nil, h112] <;> rfl) (ent82 _ _) ((turn_any s.e 11 _ sw rfl (by omega) (by omega)).mono ?_); rintro e w' ⟨rfl, hx⟩; exact ⟨_, rfl, hx, rfl⟩
                · refine stepE rfl fun sdn sa sw sE sd sk => ?_
                  have h111 : sa.eval (.tmp 111) = .int .u32 (u32i (rotr s.e 6)) := sk.fact 3 111 rfl (sd 3 rfl)
                  have h113 : sa.eval (.tmp 113) = .int .u32 (u32i (rotr s.e 11)) := sk.fact 5 113 rfl (sd 5 rfl)
                  exact Runs.bin rfl h111 h113 (eqGuard_bin rfl) (bin_xor32 _ _ _) ⟨Ext.refl _, rfl⟩
                · refine stepE rfl fun sdn sa sw sE sd sk => ?_
                  have h15 : sa.eval (.tmp 15) = .int .u32 (u32i (s.e)) := sk.old 15 rfl
                  exact Runs.move rfl h15 ⟨Ext.refl _, rfl⟩
                · refine stepE rfl fun sdn sa sw sE sd sk => ?_
                  have h115 : sa.eval (.tmp 115) = .int .u32 (u32i (s.e)) := sk.fact 7 115 rfl (sd 7 rfl)
                  refine Runs.call (f := 82) (vs := [.int .u32 (u32i (s.e)), .int .u64 ((25 : Int))]) rfl rfl rfl (by simp only [List.map_toArray, List.map_cons, List.map_nil, h115] <;> rfl) (ent82 _ _) ((turn_any s.e 25 _ sw rfl (by omega) (by omega)).mono ?_); rintro e w' ⟨rfl, hx⟩; exact ⟨_, rfl, hx, rfl⟩
                · refine stepE rfl fun sdn sa sw sE sd sk => ?_
                  have h114 : sa.eval (.tmp 114) = .int .u32 (u32i ((rotr s.e 6) ^^^ (rotr s.e 11))) := sk.fact 6 114 rfl (sd 6 rfl)
                  have h116 : sa.eval (.tmp 116) = .int .u32 (u32i (rotr s.e 25)) := sk.fact 8 116 rfl (sd 8 rfl)
                  exact Runs.bin rfl h114 h116 (eqGuard_bin rfl) (bin_xor32 _ _ _) ⟨Ext.refl _, rfl⟩
                · refine stepE rfl fun sdn sa sw sE sd sk => ?_
                  have h109 : sa.eval (.tmp 109) = .int .u32 (u32i (s).h) := sk.fact 1 109 rfl (sd 1 rfl)
                  have h117 : sa.eval (.tmp 117) = .int .u32 (u32i (((rotr s.e 6) ^^^ (rotr s.e 11)) ^^^ (rotr s.e 25))) := sk.fact 9 117 rfl (sd 9 rfl)
                  exact Runs.bin rfl h109 h117 (eqGuard_bin rfl) (bin_add32 _ _ _) ⟨Ext.refl _, rfl⟩
                · refine stepE rfl fun sdn sa sw sE sd sk => ?_
                  have h15 : sa.eval (.tmp 15) = .int .u32 (u32i (s.e)) := sk.old 15 rfl
                  exact Runs.move rfl h15 ⟨Ext.refl _, rfl⟩
                · refine stepE rfl fun sdn sa sw sE sd sk => ?_
                  have h12 : sa.eval (.tmp 12) = .pointer (some ⟨gs, 0, none⟩) := sk.old 12 rfl
                  exact Runs.idx rfl h12 rfl (run_idx_arr1 Tryz.underlying100 inf100_eq inf100_size (5) (by omega) (by omega)) ⟨Ext.refl _, rfl⟩
                · refine stepE rfl fun sdn sa sw sE sd sk => ?_
                  have h120 : sa.eval (.tmp 120) = .pointer (some ⟨gs, 5, none⟩) := sk.fact 12 120 rfl (sd 12 rfl)
                  exact Runs.load rfl h120 (run_load1 Tryz.underlying56 rfl (((c12.ext hE1).ext sE).cell (by rw [S8.list_length]; omega))) ⟨Ext.refl _, rfl⟩
                · refine stepE rfl fun sdn sa sw sE sd sk => ?_
                  have h119 : sa.eval (.tmp 119) = .int .u32 (u32i (s.e)) := sk.fact 11 119 rfl (sd 11 rfl)
                  have h121 : sa.eval (.tmp 121) = .int .u32 (u32i (s).f) := sk.fact 13 121 rfl (sd 13 rfl)
                  exact Runs.bin rfl h119 h121 (eqGuard_bin rfl) (bin_and32 _ _ _) ⟨Ext.refl _, rfl⟩
                · refine stepE rfl fun sdn sa sw sE sd sk => ?_
                  have h15 : sa.eval (.tmp 15) = .int .u32 (u32i (s.e)) := sk.old 15 rfl
                  exact Runs.move rfl h15 ⟨Ext.refl _, rfl⟩
                · refine stepE rfl fun sdn sa sw sE sd sk => ?_
                  have h123 : sa.eval (.tmp 123) = .int .u32 (u32i (s.e)) := sk.fact 15 123 rfl (sd 15 rfl)
                  exact Runs.un rfl h123 (un_not32 _) ⟨Ext.refl _, rfl⟩
                · refine stepE rfl fun sdn sa sw sE sd sk => ?_
                  have h12 : sa.eval (.tmp 12) = .pointer (some ⟨gs, 0, none⟩) := sk.old 12 rfl
                  exact Runs.idx rfl h12 rfl (run_idx_arr1 Tryz.underlying100 inf100_eq inf100_size (6) (by omega) (by omega)) ⟨Ext.refl _, rfl⟩
                · refine stepE rfl fun sdn sa sw sE sd sk => ?_
                  have h125 : sa.eval (.tmp 125) = .pointer (some ⟨gs, 6, none⟩) := sk.fact 17 125 rfl (sd 17 rfl)
                  exact Runs.load rfl h125 (run_load1 Tryz.underlying56 rfl (((c12.ext hE1).ext sE).cell (by rw [S8.list_length]; omega))) ⟨Ext.refl _, rfl⟩
                · refine stepE rfl fun sdn sa sw sE sd sk => ?_
                  have h124 : sa.eval (.tmp 124) = .int .u32 (u32i (~~~s.e)) := sk.fact 16 124 rfl (sd 16 rfl)
                  have h126 : sa.eval (.tmp 126) = .int .u32 (u32i (s).g) := sk.fact 18 126 rfl (sd 18 rfl)
                  exact Runs.bin rfl h124 h126 (eqGuard_bin rfl) (bin_and32 _ _ _) ⟨Ext.refl _, rfl⟩
                · refine stepE rfl fun sdn sa sw sE sd sk => ?_
                  have h122 : sa.eval (.tmp 122) = .int .u32 (u32i (s.e &&& (s).f)) := sk.fact 14 122 rfl (sd 14 rfl)
                  have h127 : sa.eval (.tmp 127) = .int .u32 (u32i ((~~~s.e) &&& (s).g)) := sk.fact 19 127 rfl (sd 19 rfl)
                  exact Runs.bin rfl h122 h127 (eqGuard_bin rfl) (bin_xor32 _ _ _) ⟨Ext.refl _, rfl⟩
                · refine stepE rfl fun sdn sa sw sE sd sk => ?_
                  have h118 : sa.eval (.tmp 118) = .int .u32 (u32i ((s).h + (((rotr s.e 6) ^^^ (rotr s.e 11)) ^^^ (rotr s.e 25)))) := sk.fact 10 118 rfl (sd 10 rfl)
                  have h128 : sa.eval (.tmp 128) = .int .u32 (u32i ((s.e &&& (s).f) ^^^ ((~~~s.e) &&& (s).g))) := sk.fact 20 128 rfl (sd 20 rfl)
                  exact Runs.bin rfl h118 h128 (eqGuard_bin rfl) (bin_add32 _ _ _) ⟨Ext.refl _, rfl⟩
                · refine stepE rfl fun sdn sa sw sE sd sk => ?_
                  have h1 : sa.eval (.tmp 1) = .pointer (some ⟨g4, 0, none⟩) := sk.old 1 rfl
                  exact Runs.move rfl h1 ⟨Ext.refl _, rfl⟩
                · refine stepE rfl fun sdn sa sw sE sd sk => ?_
                  have h13 : sa.eval (.tmp 13) = .int .i64 ((k : Int)) := sk.old 13 rfl
                  exact Runs.move rfl h13 ⟨Ext.refl _, rfl⟩
                · refine stepE rfl fun sdn sa sw sE sd sk => ?_
                  have h130 : sa.eval (.tmp 130) = .pointer (some ⟨g4, 0, none⟩) := sk.fact 22 130 rfl (sd 22 rfl)
                  exact Runs.nil_ rfl h130 ⟨Ext.refl _, rfl⟩
                · refine stepE rfl fun sdn sa sw sE sd sk => ?_
                  have h132 : sa.eval (.tmp 132) = .pointer (some ⟨g4, 0, none⟩) := sk.fact 24 132 rfl (sd 24 rfl)
                  have h131 : sa.eval (.tmp 131) = .int .i64 ((k : Int)) := sk.fact 23 131 rfl (sd 23 rfl)
                  exact Runs.idx rfl h132 h131 (run_idx_arr1 Tryz.underlying101 inf101_eq inf101_size (k) (by omega) (by omega)) ⟨Ext.refl _, rfl⟩
                · refine stepE rfl fun sdn sa sw sE sd sk => ?_
                  have h133 : sa.eval (.tmp 133) = .pointer (some ⟨g4, k, none⟩) := sk.fact 25 133 rfl (sd 25 rfl)
                  exact Runs.load rfl h133 (run_load1 Tryz.underlying56 rfl (((hk.ext (hEr.trans hE1)).ext sE).cell (by rw [shaK_length]; omega))) ⟨Ext.refl _, rfl⟩
                · refine stepE rfl fun sdn sa sw sE sd sk => ?_
                  have h129 : sa.eval (.tmp 129) = .int .u32 (u32i (((s).h + (((rotr s.e 6) ^^^ (rotr s.e 11)) ^^^ (rotr s.e 25))) + ((s.e &&& (s).f) ^^^ ((~~~s.e) &&& (s).g)))) := sk.fact 21 129 rfl (sd 21 rfl)
                  have h134 : sa.eval (.tmp 134) = .int .u32 (u32i (uw shaK k)) := sk.fact 26 134 rfl (sd 26 rfl)
                  exact Runs.bin rfl h129 h134 (eqGuard_bin rfl) (bin_add32 _ _ _) ⟨Ext.refl _, rfl⟩
                · refine stepE rfl fun sdn sa sw sE sd sk => ?_
                  have h13 : sa.eval (.tmp 13) = .int .i64 ((k : Int)) := sk.old 13 rfl
                  exact Runs.move rfl h13 ⟨Ext.refl _, rfl⟩
                · refine stepE rfl fun sdn sa sw sE sd sk => ?_
                  have h7 : sa.eval (.tmp 7) = .pointer (some ⟨w.heap.size + 1 + 1, 0, none⟩) := sk.old 7 rfl
                  have h136 : sa.eval (.tmp 136) = .int .i64 ((k : Int)) := sk.fact 28 136 rfl (sd 28 rfl)
                  exact Runs.idx rfl h7 h136 (run_idx_arr1 Tryz.underlying101 inf101_eq inf101_size (k) (by omega) (by omega)) ⟨Ext.refl _, rfl⟩
                · refine stepE rfl fun sdn sa sw sE sd sk => ?_
                  have h137 : sa.eval (.tmp 137) = .pointer (some ⟨w.heap.size + 1 + 1, k, none⟩) := sk.fact 29 137 rfl (sd 29 rfl)
                  exact Runs.load rfl h137 (run_load1 Tryz.underlying56 rfl (((c7.ext hE1).ext sE).cell (by rw [fillW_length]; omega))) ⟨Ext.refl _, rfl⟩
                · refine stepE rfl fun sdn sa sw sE sd sk => ?_
                  have h135 : sa.eval (.tmp 135) = .int .u32 (u32i ((((s).h + (((rotr s.e 6) ^^^ (rotr s.e 11)) ^^^ (rotr s.e 25))) + ((s.e &&& (s).f) ^^^ ((~~~s.e) &&& (s).g))) + (uw shaK k))) := sk.fact 27 135 rfl (sd 27 rfl)
                  have h138 : sa.eval (.tmp 138) = .int .u32 (u32i (uw (fillW L 64) k)) := sk.fact 30 138 rfl (sd 30 rfl)
                  exact Runs.bin rfl h135 h138 (eqGuard_bin rfl) (bin_add32 _ _ _) ⟨Ext.refl _, rfl⟩
                · refine stepE rfl fun sdn sa sw sE sd sk => ?_
                  have h139 : sa.eval (.tmp 139) = .int .u32 (u32i (((((s).h + (((rotr s.e 6) ^^^ (rotr s.e 11)) ^^^ (rotr s.e 25))) + ((s.e &&& (s).f) ^^^ ((~~~s.e) &&& (s).g))) + (uw shaK k)) + (uw (fillW L 64) k))) := sk.fact 31 139 rfl (sd 31 rfl)
                  exact Runs.assign rfl h139 ⟨Ext.refl _, rfl⟩
                ·
                  intro vals W2 hE2 hv2
                  have e0 : vals 0 = .pointer (some ⟨gs, 7, none⟩) := hv2 0 (by omega) 108 rfl
                  have e1 : vals 1 = .int .u32 (u32i (s).h) := hv2 1 (by omega) 109 rfl
                  have e2 : vals 2 = .int .u32 (u32i (s.e)) := hv2 2 (by omega) 110 rfl
                  have e3 : vals 3 = .int .u32 (u32i (rotr s.e 6)) := hv2 3 (by omega) 111 rfl
                  have e4 : vals 4 = .int .u32 (u32i (s.e)) := hv2 4 (by omega) 112 rfl
                  have e5 : vals 5 = .int .u32 (u32i (rotr s.e 11)) := hv2 5 (by omega) 113 rfl
                  have e6 : vals 6 = .int .u32 (u32i ((rotr s.e 6) ^^^ (rotr s.e 11))) := hv2 6 (by omega) 114 rfl
                  have e7 : vals 7 = .int .u32 (u32i (s.e)) := hv2 7 (by omega) 115 rfl
                  have e8 : vals 8 = .int .u32 (u32i (rotr s.e 25)) := hv2 8 (by omega) 116 rfl
                  have e9 : vals 9 = .int .u32 (u32i (((rotr s.e 6) ^^^ (rotr s.e 11)) ^^^ (rotr s.e 25))) := hv2 9 (by omega) 117 rfl
                  have e10 : vals 10 = .int .u32 (u32i ((s).h + (((rotr s.e 6) ^^^ (rotr s.e 11)) ^^^ (rotr s.e 25)))) := hv2 10 (by omega) 118 rfl
                  have e11 : vals 11 = .int .u32 (u32i (s.e)) := hv2 11 (by omega) 119 rfl
                  have e12 : vals 12 = .pointer (some ⟨gs, 5, none⟩) := hv2 12 (by omega) 120 rfl
                  have e13 : vals 13 = .int .u32 (u32i (s).f) := hv2 13 (by omega) 121 rfl
                  have e14 : vals 14 = .int .u32 (u32i (s.e &&& (s).f)) := hv2 14 (by omega) 122 rfl
                  have e15 : vals 15 = .int .u32 (u32i (s.e)) := hv2 15 (by omega) 123 rfl
                  have e16 : vals 16 = .int .u32 (u32i (~~~s.e)) := hv2 16 (by omega) 124 rfl
                  have e17 : vals 17 = .pointer (some ⟨gs, 6, none⟩) := hv2 17 (by omega) 125 rfl
                  have e18 : vals 18 = .int .u32 (u32i (s).g) := hv2 18 (by omega) 126 rfl
                  have e19 : vals 19 = .int .u32 (u32i ((~~~s.e) &&& (s).g)) := hv2 19 (by omega) 127 rfl
                  have e20 : vals 20 = .int .u32 (u32i ((s.e &&& (s).f) ^^^ ((~~~s.e) &&& (s).g))) := hv2 20 (by omega) 128 rfl
                  have e21 : vals 21 = .int .u32 (u32i (((s).h + (((rotr s.e 6) ^^^ (rotr s.e 11)) ^^^ (rotr s.e 25))) + ((s.e &&& (s).f) ^^^ ((~~~s.e) &&& (s).g)))) := hv2 21 (by omega) 129 rfl
                  have e22 : vals 22 = .pointer (some ⟨g4, 0, none⟩) := hv2 22 (by omega) 130 rfl
                  have e23 : vals 23 = .int .i64 ((k : Int)) := hv2 23 (by omega) 131 rfl
                  have e24 : vals 24 = .pointer (some ⟨g4, 0, none⟩) := hv2 24 (by omega) 132 rfl
                  have e25 : vals 25 = .pointer (some ⟨g4, k, none⟩) := hv2 25 (by omega) 133 rfl
                  have e26 : vals 26 = .int .u32 (u32i (uw shaK k)) := hv2 26 (by omega) 134 rfl
                  have e27 : vals 27 = .int .u32 (u32i ((((s).h + (((rotr s.e 6) ^^^ (rotr s.e 11)) ^^^ (rotr s.e 25))) + ((s.e &&& (s).f) ^^^ ((~~~s.e) &&& (s).g))) + (uw shaK k))) := hv2 27 (by omega) 135 rfl
                  have e28 : vals 28 = .int .i64 ((k : Int)) := hv2 28 (by omega) 136 rfl
                  have e29 : vals 29 = .pointer (some ⟨w.heap.size + 1 + 1, k, none⟩) := hv2 29 (by omega) 137 rfl
                  have e30 : vals 30 = .int .u32 (u32i (uw (fillW L 64) k)) := hv2 30 (by omega) 138 rfl
                  have e31 : vals 31 = .int .u32 (u32i (((((s).h + (((rotr s.e 6) ^^^ (rotr s.e 11)) ^^^ (rotr s.e 25))) + ((s.e &&& (s).f) ^^^ ((~~~s.e) &&& (s).g))) + (uw shaK k)) + (uw (fillW L 64) k))) := hv2 31 (by omega) 139 rfl
                  have e32 : vals 32 = .int .u32 (u32i (((((s).h + (((rotr s.e 6) ^^^ (rotr s.e 11)) ^^^ (rotr s.e 25))) + ((s.e &&& (s).f) ^^^ ((~~~s.e) &&& (s).g))) + (uw shaK k)) + (uw (fillW L 64) k))) := hv2 32 (by omega) 16 rfl
                  simp only [putAll, Act.put, List.take_succ_cons, List.take_zero, List.drop_succ_cons, List.drop_zero, List.drop_nil, List.take_nil, Nat.reduceAdd, List.setIfInBounds_toArray, List.set_cons_succ, List.set_cons_zero, e0, e1, e2, e3, e4, e5, e6, e7, e8, e9, e10, e11, e12, e13, e14, e15, e16, e17, e18, e19, e20, e21, e22, e23, e24, e25, e26, e27, e28, e29, e30, e31, e32]
                  clear hv2 e0 e1 e2 e3 e4 e5 e6 e7 e8 e9 e10 e11 e12 e13 e14 e15 e16 e17 e18 e19 e20 e21 e22 e23 e24 e25 e26 e27 e28 e29 e30 e31 e32
                  go_upto_region 17 with (fail)
                  refine par_ext (n := 25) (by kernel_rfl) [.is (.int .u32 (u32i (s.a))), .is (.int .u32 (u32i (rotr s.a 2))), .is (.int .u32 (u32i (s.a))), .is (.int .u32 (u32i (rotr s.a 13))), .is (.int .u32 (u32i ((rotr s.a 2) ^^^ (rotr s.a 13)))), .is (.int .u32 (u32i (s.a))), .is (.int .u32 (u32i (rotr s.a 22))), .is (.int .u32 (u32i (((rotr s.a 2) ^^^ (rotr s.a 13)) ^^^ (rotr s.a 22)))), .is (.int .u32 (u32i (s.a))), .is (.pointer (some ⟨gs, 1, none⟩)), .is (.int .u32 (u32i (s).b)), .is (.int .u32 (u32i (s.a &&& (s).b))), .is (.int .u32 (u32i (s.a))), .is (.pointer (some ⟨gs, 2, none⟩)), .is (.int .u32 (u32i (s).c)), .is (.int .u32 (u32i (s.a &&& (s).c))), .is (.int .u32 (u32i ((s.a &&& (s).b) ^^^ (s.a &&& (s).c)))), .is (.pointer (some ⟨gs, 1, none⟩)), .is (.int .u32 (u32i (s).b)), .is (.pointer (some ⟨gs, 2, none⟩)), .is (.int .u32 (u32i (s).c)), .is (.int .u32 (u32i ((s).b &&& (s).c))), .is (.int .u32 (u32i (((s.a &&& (s).b) ^^^ (s.a &&& (s).c)) ^^^ ((s).b &&& (s).c)))), .is (.int .u32 (u32i ((((rotr s.a 2) ^^^ (rotr s.a 13)) ^^^ (rotr s.a 22)) + (((s.a &&& (s).b) ^^^ (s.a &&& (s).c)) ^^^ ((s).b &&& (s).c))))), .is (.int .u32 (u32i ((((rotr s.a 2) ^^^ (rotr s.a 13)) ^^^ (rotr s.a 22)) + (((s.a &&& (s).b) ^^^ (s.a &&& (s).c)) ^^^ ((s).b &&& (s).c)))))] rfl ⟨?_, ?_, ?_, ?_, ?_, ?_, ?_, ?_, ?_, ?_, ?_, ?_, ?_, ?_, ?_, ?_, ?_, ?_, ?_, ?_, ?_, ?_, ?_, ?_, ?_, trivial⟩ ?_
                  · refine stepE rfl fun sdn sa sw sE sd sk => ?_
                    have h14 : sa.eval (.tmp 14) = .int .u32 (u32i (s.a)) := sk.old 14 rfl
                    exact Runs.move rfl h14 ⟨Ext.refl _, rfl⟩
                  · refine stepE rfl fun sdn sa sw sE sd sk => ?_
                    have h140 : sa.eval (.tmp 140) = .int .u32 (u32i (s.a)) := sk.fact 0 140 rfl (sd 0 rfl)
                    refine Runs.call (f := 82) (vs := [.int .u32 (u32i (s.a)), .int .u64 ((2 : Int))]) rfl rfl rfl (by simp only [List.map_toArray, List.map_cons, List.map_nil, h140] <;> rfl) (ent82 _ _) ((turn_any s.a 2 _ sw rfl (by omega) (by omega)).mono ?_); rintro e w' ⟨rfl, hx⟩; exact ⟨_, rfl, hx, rfl⟩
                  · refine stepE rfl fun sdn sa sw sE sd sk => ?_
                    have h14 : sa.eval (.tmp 14) = .int .u32 (u32i (s.a)) := sk.old 14 rfl
                    exact Runs.move rfl h14 ⟨Ext.refl _, rfl⟩
                  · refine stepE rfl fun sdn sa sw sE sd sk => ?_
                    have h142 : sa.eval (.tmp 142) = .int .u32 (u32i (s.a)) := sk.fact 2 142 rfl (sd 2 rfl)
                    refine Runs.call (f := 82) (vs := [.int .u32 (u32i (s.a)), .int .u64 ((13 : Int))]) rfl rfl rfl (by simp only [List.map_toArray, List.map_cons, List.map_nil, h142] <;> rfl) (ent82 _ _) ((turn_any s.a 13 _ sw rfl (by omega) (by omega)).mono ?_); rintro e w' ⟨rfl, hx⟩; exact ⟨_, rfl, hx, rfl⟩
                  · refine stepE rfl fun sdn sa sw sE sd sk => ?_
                    have h141 : sa.eval (.tmp 141) = .int .u32 (u32i (rotr s.a 2)) := sk.fact 1 141 rfl (sd 1 rfl)
                    have h143 : sa.eval (.tmp 143) = .int .u32 (u32i (rotr s.a 13)) := sk.fact 3 143 rfl (sd 3 rfl)
                    exact Runs.bin rfl h141 h143 (eqGuard_bin rfl) (bin_xor32 _ _ _) ⟨Ext.refl _, rfl⟩
                  · refine stepE rfl fun sdn sa sw sE sd sk => ?_
                    have h14 : sa.eval (.tmp 14) = .int .u32 (u32i (s.a)) := sk.old 14 rfl
                    exact Runs.move rfl h14 ⟨Ext.refl _, rfl⟩
                  · refine stepE rfl fun sdn sa sw sE sd sk => ?_
                    have h145 : sa.eval (.tmp 145) = .int .u32 (u32i (s.a)) := sk.fact 5 145 rfl (sd 5 rfl)
                    refine Runs.call (f := 82) (vs := [.int .u32 (u32i (s.a)), .int .u64 ((22 : Int))]) rfl rfl rfl (by simp only [List.map_toArray, List.map_cons, List.map_nil, h145] <;> rfl) (ent82 _ _) ((turn_any s.a 22 _ sw rfl (by omega) (by omega)).mono ?_); rintro e w' ⟨rfl, hx⟩; exact ⟨_, rfl, hx, rfl⟩
                  · refine stepE rfl fun sdn sa sw sE sd sk => ?_
                    have h144 : sa.eval (.tmp 144) = .int .u32 (u32i ((rotr s.a 2) ^^^ (rotr s.a 13))) := sk.fact 4 144 rfl (sd 4 rfl)
                    have h146 : sa.eval (.tmp 146) = .int .u32 (u32i (rotr s.a 22)) := sk.fact 6 146 rfl (sd 6 rfl)
                    exact Runs.bin rfl h144 h146 (eqGuard_bin rfl) (bin_xor32 _ _ _) ⟨Ext.refl _, rfl⟩
                  · refine stepE rfl fun sdn sa sw sE sd sk => ?_
                    have h14 : sa.eval (.tmp 14) = .int .u32 (u32i (s.a)) := sk.old 14 rfl
                    exact Runs.move rfl h14 ⟨Ext.refl _, rfl⟩
                  · refine stepE rfl fun sdn sa sw sE sd sk => ?_
                    have h12 : sa.eval (.tmp 12) = .pointer (some ⟨gs, 0, none⟩) := sk.old 12 rfl
                    exact Runs.idx rfl h12 rfl (run_idx_arr1 Tryz.underlying100 inf100_eq inf100_size (1) (by omega) (by omega)) ⟨Ext.refl _, rfl⟩
                  · refine stepE rfl fun sdn sa sw sE sd sk => ?_
                    have h149 : sa.eval (.tmp 149) = .pointer (some ⟨gs, 1, none⟩) := sk.fact 9 149 rfl (sd 9 rfl)
                    exact Runs.load rfl h149 (run_load1 Tryz.underlying56 rfl ((((c12.ext hE1).ext hE2).ext sE).cell (by rw [S8.list_length]; omega))) ⟨Ext.refl _, rfl⟩
                  · refine stepE rfl fun sdn sa sw sE sd sk => ?_
                    have h148 : sa.eval (.tmp 148) = .int .u32 (u32i (s.a)) := sk.fact 8 148 rfl (sd 8 rfl)
                    have h150 : sa.eval (.tmp 150) = .int .u32 (u32i (s).b) := sk.fact 10 150 rfl (sd 10 rfl)
                    exact Runs.bin rfl h148 h150 (eqGuard_bin rfl) (bin_and32 _ _ _) ⟨Ext.refl _, rfl⟩
                  · refine stepE rfl fun sdn sa sw sE sd sk => ?_
                    have h14 : sa.eval (.tmp 14) = .int .u32 (u32i (s.a)) := sk.old 14 rfl
                    exact Runs.move rfl h14 ⟨Ext.refl _, rfl⟩
                  · refine stepE rfl fun sdn sa sw sE sd sk => ?_
                    have h12 : sa.eval (.tmp 12) = .pointer (some ⟨gs, 0, none⟩) := sk.old 12 rfl
                    exact Runs.idx rfl h12 rfl (run_idx_arr1 Tryz.underlying100 inf100_eq inf100_size (2) (by omega) (by omega)) ⟨Ext.refl _, rfl⟩
                  · refine stepE rfl fun sdn sa sw sE sd sk => ?_
                    have h153 : sa.eval (.tmp 153) = .pointer (some ⟨gs, 2, none⟩) := sk.fact 13 153 rfl (sd 13 rfl)
                    exact Runs.load rfl h153 (run_load1 Tryz.underlying56 rfl ((((c12.ext hE1).ext hE2).ext sE).cell (by rw [S8.list_length]; omega))) ⟨Ext.refl _, rfl⟩
                  · refine stepE rfl fun sdn sa sw sE sd sk => ?_
                    have h152 : sa.eval (.tmp 152) = .int .u32 (u32i (s.a)) := sk.fact 12 152 rfl (sd 12 rfl)
                    have h154 : sa.eval (.tmp 154) = .int .u32 (u32i (s).c) := sk.fact 14 154 rfl (sd 14 rfl)
                    exact Runs.bin rfl h152 h154 (eqGuard_bin rfl) (bin_and32 _ _ _) ⟨Ext.refl _, rfl⟩
                  · refine stepE rfl fun sdn sa sw sE sd sk => ?_
                    have h151 : sa.eval (.tmp 151) = .int .u32 (u32i (s.a &&& (s).b)) := sk.fact 11 151 rfl (sd 11 rfl)
                    have h155 : sa.eval (.tmp 155) = .int .u32 (u32i (s.a &&& (s).c)) := sk.fact 15 155 rfl (sd 15 rfl)
                    exact Runs.bin rfl h151 h155 (eqGuard_bin rfl) (bin_xor32 _ _ _) ⟨Ext.refl _, rfl⟩
                  · refine stepE rfl fun sdn sa sw sE sd sk => ?_
                    have h12 : sa.eval (.tmp 12) = .pointer (some ⟨gs, 0, none⟩) := sk.old 12 rfl
                    exact Runs.idx rfl h12 rfl (run_idx_arr1 Tryz.underlying100 inf100_eq inf100_size (1) (by omega) (by omega)) ⟨Ext.refl _, rfl⟩
                  · refine stepE rfl fun sdn sa sw sE sd sk => ?_
                    have h157 : sa.eval (.tmp 157) = .pointer (some ⟨gs, 1, none⟩) := sk.fact 17 157 rfl (sd 17 rfl)
                    exact Runs.load rfl h157 (run_load1 Tryz.underlying56 rfl ((((c12.ext hE1).ext hE2).ext sE).cell (by rw [S8.list_length]; omega))) ⟨Ext.refl _, rfl⟩
                  · refine stepE rfl fun sdn sa sw sE sd sk => ?_
                    have h12 : sa.eval (.tmp 12) = .pointer (some ⟨gs, 0, none⟩) := sk.old 12 rfl
                    exact Runs.idx rfl h12 rfl (run_idx_arr1 Tryz.underlying100 inf100_eq inf100_size (2) (by omega) (by omega)) ⟨Ext.refl _, rfl⟩
                  · refine stepE rfl fun sdn sa sw sE sd sk => ?_
                    have h159 : sa.eval (.tmp 159) = .pointer (some ⟨gs, 2, none⟩) := sk.fact 19 159 rfl (sd 19 rfl)
                    exact Runs.load rfl h159 (run_load1 Tryz.underlying56 rfl ((((c12.ext hE1).ext hE2).ext sE).cell (by rw [S8.list_length]; omega))) ⟨Ext.refl _, rfl⟩
                  · refine stepE rfl fun sdn sa sw sE sd sk => ?_
                    have h158 : sa.eval (.tmp 158) = .int .u32 (u32i (s).b) := sk.fact 18 158 rfl (sd 18 rfl)
                    have h160 : sa.eval (.tmp 160) = .int .u32 (u32i (s).c) := sk.fact 20 160 rfl (sd 20 rfl)
                    exact Runs.bin rfl h158 h160 (eqGuard_bin rfl) (bin_and32 _ _ _) ⟨Ext.refl _, rfl⟩
                  · refine stepE rfl fun sdn sa sw sE sd sk => ?_
                    have h156 : sa.eval (.tmp 156) = .int .u32 (u32i ((s.a &&& (s).b) ^^^ (s.a &&& (s).c))) := sk.fact 16 156 rfl (sd 16 rfl)
                    have h161 : sa.eval (.tmp 161) = .int .u32 (u32i ((s).b &&& (s).c)) := sk.fact 21 161 rfl (sd 21 rfl)
                    exact Runs.bin rfl h156 h161 (eqGuard_bin rfl) (bin_xor32 _ _ _) ⟨Ext.refl _, rfl⟩
                  · refine stepE rfl fun sdn sa sw sE sd sk => ?_
                    have h147 : sa.eval (.tmp 147) = .int .u32 (u32i (((rotr s.a 2) ^^^ (rotr s.a 13)) ^^^ (rotr s.a 22))) := sk.fact 7 147 rfl (sd 7 rfl)
                    have h162 : sa.eval (.tmp 162) = .int .u32 (u32i (((s.a &&& (s).b) ^^^ (s.a &&& (s).c)) ^^^ ((s).b &&& (s).c))) := sk.fact 22 162 rfl (sd 22 rfl)
                    exact Runs.bin rfl h147 h162 (eqGuard_bin rfl) (bin_add32 _ _ _) ⟨Ext.refl _, rfl⟩
                  · refine stepE rfl fun sdn sa sw sE sd sk => ?_
                    have h163 : sa.eval (.tmp 163) = .int .u32 (u32i ((((rotr s.a 2) ^^^ (rotr s.a 13)) ^^^ (rotr s.a 22)) + (((s.a &&& (s).b) ^^^ (s.a &&& (s).c)) ^^^ ((s).b &&& (s).c)))) := sk.fact 23 163 rfl (sd 23 rfl)
                    exact Runs.assign rfl h163 ⟨Ext.refl _, rfl⟩
                  ·
                    intro vals W5 hE3 hv3
                    have e0 : vals 0 = .int .u32 (u32i (s.a)) := hv3 0 (by omega) 140 rfl
                    have e1 : vals 1 = .int .u32 (u32i (rotr s.a 2)) := hv3 1 (by omega) 141 rfl
                    have e2 : vals 2 = .int .u32 (u32i (s.a)) := hv3 2 (by omega) 142 rfl
                    have e3 : vals 3 = .int .u32 (u32i (rotr s.a 13)) := hv3 3 (by omega) 143 rfl
                    have e4 : vals 4 = .int .u32 (u32i ((rotr s.a 2) ^^^ (rotr s.a 13))) := hv3 4 (by omega) 144 rfl
                    have e5 : vals 5 = .int .u32 (u32i (s.a)) := hv3 5 (by omega) 145 rfl
                    have e6 : vals 6 = .int .u32 (u32i (rotr s.a 22)) := hv3 6 (by omega) 146 rfl
                    have e7 : vals 7 = .int .u32 (u32i (((rotr s.a 2) ^^^ (rotr s.a 13)) ^^^ (rotr s.a 22))) := hv3 7 (by omega) 147 rfl
                    have e8 : vals 8 = .int .u32 (u32i (s.a)) := hv3 8 (by omega) 148 rfl
                    have e9 : vals 9 = .pointer (some ⟨gs, 1, none⟩) := hv3 9 (by omega) 149 rfl
                    have e10 : vals 10 = .int .u32 (u32i (s).b) := hv3 10 (by omega) 150 rfl
                    have e11 : vals 11 = .int .u32 (u32i (s.a &&& (s).b)) := hv3 11 (by omega) 151 rfl
                    have e12 : vals 12 = .int .u32 (u32i (s.a)) := hv3 12 (by omega) 152 rfl
                    have e13 : vals 13 = .pointer (some ⟨gs, 2, none⟩) := hv3 13 (by omega) 153 rfl
                    have e14 : vals 14 = .int .u32 (u32i (s).c) := hv3 14 (by omega) 154 rfl
                    have e15 : vals 15 = .int .u32 (u32i (s.a &&& (s).c)) := hv3 15 (by omega) 155 rfl
                    have e16 : vals 16 = .int .u32 (u32i ((s.a &&& (s).b) ^^^ (s.a &&& (s).c))) := hv3 16 (by omega) 156 rfl
                    have e17 : vals 17 = .pointer (some ⟨gs, 1, none⟩) := hv3 17 (by omega) 157 rfl
                    have e18 : vals 18 = .int .u32 (u32i (s).b) := hv3 18 (by omega) 158 rfl
                    have e19 : vals 19 = .pointer (some ⟨gs, 2, none⟩) := hv3 19 (by omega) 159 rfl
                    have e20 : vals 20 = .int .u32 (u32i (s).c) := hv3 20 (by omega) 160 rfl
                    have e21 : vals 21 = .int .u32 (u32i ((s).b &&& (s).c)) := hv3 21 (by omega) 161 rfl
                    have e22 : vals 22 = .int .u32 (u32i (((s.a &&& (s).b) ^^^ (s.a &&& (s).c)) ^^^ ((s).b &&& (s).c))) := hv3 22 (by omega) 162 rfl
                    have e23 : vals 23 = .int .u32 (u32i ((((rotr s.a 2) ^^^ (rotr s.a 13)) ^^^ (rotr s.a 22)) + (((s.a &&& (s).b) ^^^ (s.a &&& (s).c)) ^^^ ((s).b &&& (s).c)))) := hv3 23 (by omega) 163 rfl
                    have e24 : vals 24 = .int .u32 (u32i ((((rotr s.a 2) ^^^ (rotr s.a 13)) ^^^ (rotr s.a 22)) + (((s.a &&& (s).b) ^^^ (s.a &&& (s).c)) ^^^ ((s).b &&& (s).c)))) := hv3 24 (by omega) 17 rfl
                    simp only [putAll, Act.put, List.take_succ_cons, List.take_zero, List.drop_succ_cons, List.drop_zero, List.drop_nil, List.take_nil, Nat.reduceAdd, List.setIfInBounds_toArray, List.set_cons_succ, List.set_cons_zero, e0, e1, e2, e3, e4, e5, e6, e7, e8, e9, e10, e11, e12, e13, e14, e15, e16, e17, e18, e19, e20, e21, e22, e23, e24]
                    clear hv3 e0 e1 e2 e3 e4 e5 e6 e7 e8 e9 e10 e11 e12 e13 e14 e15 e16 e17 e18 e19 e20 e21 e22 e23 e24
                    go_upto_region 18 with (fail)
                    refine seq_ext (n := 17) (by kernel_rfl) [.is (.int .u32 (u32i (roundT s (uw shaK k) (uw (fillW L 64) k)))), .is (.int .u32 (u32i (roundU s))), .is (.int .u32 (u32i ((roundT s (uw shaK k) (uw (fillW L 64) k)) + (roundU s)))), .is (.int .u32 (u32i (s.a))), .is (.pointer (some ⟨gs, 1, none⟩)), .is (.int .u32 (u32i (s).b)), .is (.pointer (some ⟨gs, 2, none⟩)), .is (.int .u32 (u32i (s).c)), .is (.pointer (some ⟨gs, 3, none⟩)), .is (.int .u32 (u32i (s).d)), .is (.int .u32 (u32i (roundT s (uw shaK k) (uw (fillW L 64) k)))), .is (.int .u32 (u32i ((s).d + (roundT s (uw shaK k) (uw (fillW L 64) k))))), .is (.int .u32 (u32i (s.e))), .is (.pointer (some ⟨gs, 5, none⟩)), .is (.int .u32 (u32i (s).f)), .is (.pointer (some ⟨gs, 6, none⟩)), .is (.int .u32 (u32i (s).g))] rfl ⟨?_, ?_, ?_, ?_, ?_, ?_, ?_, ?_, ?_, ?_, ?_, ?_, ?_, ?_, ?_, ?_, ?_, trivial⟩ ?_
                    · refine stepE rfl fun sdn sa sw sE sd sk => ?_
                      have h16 : sa.eval (.tmp 16) = .int .u32 (u32i (roundT s (uw shaK k) (uw (fillW L 64) k))) := sk.old 16 rfl
                      exact Runs.move rfl h16 ⟨Ext.refl _, rfl⟩
                    · refine stepE rfl fun sdn sa sw sE sd sk => ?_
                      have h17 : sa.eval (.tmp 17) = .int .u32 (u32i (roundU s)) := sk.old 17 rfl
                      exact Runs.move rfl h17 ⟨Ext.refl _, rfl⟩
                    · refine stepE rfl fun sdn sa sw sE sd sk => ?_
                      have h164 : sa.eval (.tmp 164) = .int .u32 (u32i (roundT s (uw shaK k) (uw (fillW L 64) k))) := sk.fact 0 164 rfl (sd 0 rfl)
                      have h165 : sa.eval (.tmp 165) = .int .u32 (u32i (roundU s)) := sk.fact 1 165 rfl (sd 1 rfl)
                      exact Runs.bin rfl h164 h165 (eqGuard_bin rfl) (bin_add32 _ _ _) ⟨Ext.refl _, rfl⟩
                    · refine stepE rfl fun sdn sa sw sE sd sk => ?_
                      have h14 : sa.eval (.tmp 14) = .int .u32 (u32i (s.a)) := sk.old 14 rfl
                      exact Runs.move rfl h14 ⟨Ext.refl _, rfl⟩
                    · refine stepE rfl fun sdn sa sw sE sd sk => ?_
                      have h12 : sa.eval (.tmp 12) = .pointer (some ⟨gs, 0, none⟩) := sk.old 12 rfl
                      exact Runs.idx rfl h12 rfl (run_idx_arr1 Tryz.underlying100 inf100_eq inf100_size (1) (by omega) (by omega)) ⟨Ext.refl _, rfl⟩
                    · refine stepE rfl fun sdn sa sw sE sd sk => ?_
                      have h168 : sa.eval (.tmp 168) = .pointer (some ⟨gs, 1, none⟩) := sk.fact 4 168 rfl (sd 4 rfl)
                      exact Runs.load rfl h168 (run_load1 Tryz.underlying56 rfl (((((c12.ext hE1).ext hE2).ext hE3).ext sE).cell (by rw [S8.list_length]; omega))) ⟨Ext.refl _, rfl⟩
                    · refine stepE rfl fun sdn sa sw sE sd sk => ?_
                      have h12 : sa.eval (.tmp 12) = .pointer (some ⟨gs, 0, none⟩) := sk.old 12 rfl
                      exact Runs.idx rfl h12 rfl (run_idx_arr1 Tryz.underlying100 inf100_eq inf100_size (2) (by omega) (by omega)) ⟨Ext.refl _, rfl⟩
                    · refine stepE rfl fun sdn sa sw sE sd sk => ?_
                      have h170 : sa.eval (.tmp 170) = .pointer (some ⟨gs, 2, none⟩) := sk.fact 6 170 rfl (sd 6 rfl)
                      exact Runs.load rfl h170 (run_load1 Tryz.underlying56 rfl (((((c12.ext hE1).ext hE2).ext hE3).ext sE).cell (by rw [S8.list_length]; omega))) ⟨Ext.refl _, rfl⟩
                    · refine stepE rfl fun sdn sa sw sE sd sk => ?_
                      have h12 : sa.eval (.tmp 12) = .pointer (some ⟨gs, 0, none⟩) := sk.old 12 rfl
                      exact Runs.idx rfl h12 rfl (run_idx_arr1 Tryz.underlying100 inf100_eq inf100_size (3) (by omega) (by omega)) ⟨Ext.refl _, rfl⟩
                    · refine stepE rfl fun sdn sa sw sE sd sk => ?_
                      have h172 : sa.eval (.tmp 172) = .pointer (some ⟨gs, 3, none⟩) := sk.fact 8 172 rfl (sd 8 rfl)
                      exact Runs.load rfl h172 (run_load1 Tryz.underlying56 rfl (((((c12.ext hE1).ext hE2).ext hE3).ext sE).cell (by rw [S8.list_length]; omega))) ⟨Ext.refl _, rfl⟩
                    · refine stepE rfl fun sdn sa sw sE sd sk => ?_
                      have h16 : sa.eval (.tmp 16) = .int .u32 (u32i (roundT s (uw shaK k) (uw (fillW L 64) k))) := sk.old 16 rfl
                      exact Runs.move rfl h16 ⟨Ext.refl _, rfl⟩
                    · refine stepE rfl fun sdn sa sw sE sd sk => ?_
                      have h173 : sa.eval (.tmp 173) = .int .u32 (u32i (s).d) := sk.fact 9 173 rfl (sd 9 rfl)
                      have h174 : sa.eval (.tmp 174) = .int .u32 (u32i (roundT s (uw shaK k) (uw (fillW L 64) k))) := sk.fact 10 174 rfl (sd 10 rfl)
                      exact Runs.bin rfl h173 h174 (eqGuard_bin rfl) (bin_add32 _ _ _) ⟨Ext.refl _, rfl⟩
                    · refine stepE rfl fun sdn sa sw sE sd sk => ?_
                      have h15 : sa.eval (.tmp 15) = .int .u32 (u32i (s.e)) := sk.old 15 rfl
                      exact Runs.move rfl h15 ⟨Ext.refl _, rfl⟩
                    · refine stepE rfl fun sdn sa sw sE sd sk => ?_
                      have h12 : sa.eval (.tmp 12) = .pointer (some ⟨gs, 0, none⟩) := sk.old 12 rfl
                      exact Runs.idx rfl h12 rfl (run_idx_arr1 Tryz.underlying100 inf100_eq inf100_size (5) (by omega) (by omega)) ⟨Ext.refl _, rfl⟩
                    · refine stepE rfl fun sdn sa sw sE sd sk => ?_
                      have h177 : sa.eval (.tmp 177) = .pointer (some ⟨gs, 5, none⟩) := sk.fact 13 177 rfl (sd 13 rfl)
                      exact Runs.load rfl h177 (run_load1 Tryz.underlying56 rfl (((((c12.ext hE1).ext hE2).ext hE3).ext sE).cell (by rw [S8.list_length]; omega))) ⟨Ext.refl _, rfl⟩
                    · refine stepE rfl fun sdn sa sw sE sd sk => ?_
                      have h12 : sa.eval (.tmp 12) = .pointer (some ⟨gs, 0, none⟩) := sk.old 12 rfl
                      exact Runs.idx rfl h12 rfl (run_idx_arr1 Tryz.underlying100 inf100_eq inf100_size (6) (by omega) (by omega)) ⟨Ext.refl _, rfl⟩
                    · refine stepE rfl fun sdn sa sw sE sd sk => ?_
                      have h179 : sa.eval (.tmp 179) = .pointer (some ⟨gs, 6, none⟩) := sk.fact 15 179 rfl (sd 15 rfl)
                      exact Runs.load rfl h179 (run_load1 Tryz.underlying56 rfl (((((c12.ext hE1).ext hE2).ext hE3).ext sE).cell (by rw [S8.list_length]; omega))) ⟨Ext.refl _, rfl⟩
                    ·
                      intro vals W6 hE4 hv4
                      have e0 : vals 0 = .int .u32 (u32i (roundT s (uw shaK k) (uw (fillW L 64) k))) := hv4 0 (by omega) 164 rfl
                      have e1 : vals 1 = .int .u32 (u32i (roundU s)) := hv4 1 (by omega) 165 rfl
                      have e2 : vals 2 = .int .u32 (u32i ((roundT s (uw shaK k) (uw (fillW L 64) k)) + (roundU s))) := hv4 2 (by omega) 166 rfl
                      have e3 : vals 3 = .int .u32 (u32i (s.a)) := hv4 3 (by omega) 167 rfl
                      have e4 : vals 4 = .pointer (some ⟨gs, 1, none⟩) := hv4 4 (by omega) 168 rfl
                      have e5 : vals 5 = .int .u32 (u32i (s).b) := hv4 5 (by omega) 169 rfl
                      have e6 : vals 6 = .pointer (some ⟨gs, 2, none⟩) := hv4 6 (by omega) 170 rfl
                      have e7 : vals 7 = .int .u32 (u32i (s).c) := hv4 7 (by omega) 171 rfl
                      have e8 : vals 8 = .pointer (some ⟨gs, 3, none⟩) := hv4 8 (by omega) 172 rfl
                      have e9 : vals 9 = .int .u32 (u32i (s).d) := hv4 9 (by omega) 173 rfl
                      have e10 : vals 10 = .int .u32 (u32i (roundT s (uw shaK k) (uw (fillW L 64) k))) := hv4 10 (by omega) 174 rfl
                      have e11 : vals 11 = .int .u32 (u32i ((s).d + (roundT s (uw shaK k) (uw (fillW L 64) k)))) := hv4 11 (by omega) 175 rfl
                      have e12 : vals 12 = .int .u32 (u32i (s.e)) := hv4 12 (by omega) 176 rfl
                      have e13 : vals 13 = .pointer (some ⟨gs, 5, none⟩) := hv4 13 (by omega) 177 rfl
                      have e14 : vals 14 = .int .u32 (u32i (s).f) := hv4 14 (by omega) 178 rfl
                      have e15 : vals 15 = .pointer (some ⟨gs, 6, none⟩) := hv4 15 (by omega) 179 rfl
                      have e16 : vals 16 = .int .u32 (u32i (s).g) := hv4 16 (by omega) 180 rfl
                      simp only [putAll, Act.put, List.take_succ_cons, List.take_zero, List.drop_succ_cons, List.drop_zero, List.drop_nil, List.take_nil, Nat.reduceAdd, List.setIfInBounds_toArray, List.set_cons_succ, List.set_cons_zero, e0, e1, e2, e3, e4, e5, e6, e7, e8, e9, e10, e11, e12, e13, e14, e15, e16]
                      clear hv4 e0 e1 e2 e3 e4 e5 e6 e7 e8 e9 e10 e11 e12 e13 e14 e15 e16
                      have hEE := ((hE1.trans hE2).trans hE3).trans hE4
                      go_wp2_with (refine strow_law (l' := (roundS s (uw shaK k) (uw (fillW L 64) k)).list) rfl rfl rfl rfl (c12.ext hEE) row8_eq (row8_size.trans (S8.list_length _).symm) ((S8.list_length _).trans (S8.list_length _).symm) ?_; intro W7 s7 g7 z7)
                      go_roundw
                      case rel =>
                        refine ⟨k + 1, by omega, by go_num, (c3.ext hEE).grown g7 (by simp; omega), (c6.ext hEE).grown g7 (by simp; omega), (c7.ext hEE).grown g7 (by simp; omega), ?_, (hEr.trans hEE).then_grown g7 (by intro j hj; cases hj; omega)⟩
                        simp only [roundsS, ← Hs.out]
                        exact s7
                      case measure => simp [intOf]; omega
            · obtain rfl : k = 64 := by omega
              clear hlt hk64
              obtain ⟨t, ht⟩ : ∃ s, s = roundsS (S8.of h) (fillW L 64) 64 := ⟨_, rfl⟩
              rw [← ht] at c12
              have Ht := Lib.hid ht
              clear ht
              go_wp2_with fail
              go_loopw [18] (fun i wr => ∃ k : Nat, k ≤ 8 ∧ i = .int .i64 k ∧ Arr wr w.heap.size 100 (addTo h t.list k) ∧ Arr wr (w.heap.size + 1) 100 (List.replicate 8 0) ∧ Arr wr gs 100 t.list ∧ Ext w wr) (fun i _ => 8 - (intOf i).toNat)
              case atStart => exact ⟨0, by omega, rfl, c3, c6, c12, hEr⟩
              case round =>
                clear c3 c6 c7 c12 hEr
                obtain ⟨k, hk8, rfl, c3, c6, c12, hEr⟩ := hrel
                by_cases hlt : k < 8
                · go_upto_region 22 with (fail)
                  refine par_ext (n := 9) (by kernel_rfl) [.is (.int .i64 ((k : Int))), .is (.int .i64 ((k : Int))), .is (.pointer (some ⟨w.heap.size, k, none⟩)), .is (.int .u32 (u32i (uw (addTo h t.list k) k))), .is (.int .i64 ((k : Int))), .is (.pointer (some ⟨gs, k, none⟩)), .is (.int .u32 (u32i (uw (t).list k))), .is (.int .u32 (u32i ((uw (addTo h t.list k) k) + (uw (t).list k)))), .is (.pointer (some ⟨w.heap.size, k, none⟩))] rfl ⟨?_, ?_, ?_, ?_, ?_, ?_, ?_, ?_, ?_, trivial⟩ ?_
                  · refine stepE rfl fun sdn sa sw sE sd sk => ?_
                    have h18 : sa.eval (.tmp 18) = .int .i64 ((k : Int)) := sk.old 18 rfl
                    exact Runs.move rfl h18 ⟨Ext.refl _, rfl⟩
                  · refine stepE rfl fun sdn sa sw sE sd sk => ?_
                    have h18 : sa.eval (.tmp 18) = .int .i64 ((k : Int)) := sk.old 18 rfl
                    exact Runs.move rfl h18 ⟨Ext.refl _, rfl⟩
                  · refine stepE rfl fun sdn sa sw sE sd sk => ?_
                    have h3 : sa.eval (.tmp 3) = .pointer (some ⟨w.heap.size, 0, none⟩) := sk.old 3 rfl
                    have h187 : sa.eval (.tmp 187) = .int .i64 ((k : Int)) := sk.fact 1 187 rfl (sd 1 rfl)
                    exact Runs.idx rfl h3 h187 (run_idx_arr1 Tryz.underlying100 inf100_eq inf100_size (k) (by omega) (by omega)) ⟨Ext.refl _, rfl⟩
                  · refine stepE rfl fun sdn sa sw sE sd sk => ?_
                    have h188 : sa.eval (.tmp 188) = .pointer (some ⟨w.heap.size, k, none⟩) := sk.fact 2 188 rfl (sd 2 rfl)
                    exact Runs.load rfl h188 (run_load1 Tryz.underlying56 rfl ((c3.ext sE).cell (by rw [addTo_length, Hh.out]; omega))) ⟨Ext.refl _, rfl⟩
                  · refine stepE rfl fun sdn sa sw sE sd sk => ?_
                    have h18 : sa.eval (.tmp 18) = .int .i64 ((k : Int)) := sk.old 18 rfl
                    exact Runs.move rfl h18 ⟨Ext.refl _, rfl⟩
                  · refine stepE rfl fun sdn sa sw sE sd sk => ?_
                    have h12 : sa.eval (.tmp 12) = .pointer (some ⟨gs, 0, none⟩) := sk.old 12 rfl
                    have h190 : sa.eval (.tmp 190) = .int .i64 ((k : Int)) := sk.fact 4 190 rfl (sd 4 rfl)
                    exact Runs.idx rfl h12 h190 (run_idx_arr1 Tryz.underlying100 inf100_eq inf100_size (k) (by omega) (by omega)) ⟨Ext.refl _, rfl⟩
                  · refine stepE rfl fun sdn sa sw sE sd sk => ?_
                    have h191 : sa.eval (.tmp 191) = .pointer (some ⟨gs, k, none⟩) := sk.fact 5 191 rfl (sd 5 rfl)
                    exact Runs.load rfl h191 (run_load1 Tryz.underlying56 rfl ((c12.ext sE).cell (by rw [S8.list_length]; omega))) ⟨Ext.refl _, rfl⟩
                  · refine stepE rfl fun sdn sa sw sE sd sk => ?_
                    have h189 : sa.eval (.tmp 189) = .int .u32 (u32i (uw (addTo h t.list k) k)) := sk.fact 3 189 rfl (sd 3 rfl)
                    have h192 : sa.eval (.tmp 192) = .int .u32 (u32i (uw (t).list k)) := sk.fact 6 192 rfl (sd 6 rfl)
                    exact Runs.bin rfl h189 h192 (eqGuard_bin rfl) (bin_add32 _ _ _) ⟨Ext.refl _, rfl⟩
                  · refine stepE rfl fun sdn sa sw sE sd sk => ?_
                    have h3 : sa.eval (.tmp 3) = .pointer (some ⟨w.heap.size, 0, none⟩) := sk.old 3 rfl
                    have h186 : sa.eval (.tmp 186) = .int .i64 ((k : Int)) := sk.fact 0 186 rfl (sd 0 rfl)
                    exact Runs.idx rfl h3 h186 (run_idx_arr1 Tryz.underlying100 inf100_eq inf100_size (k) (by omega) (by omega)) ⟨Ext.refl _, rfl⟩
                  ·
                    intro vals W1 hE1 hv1
                    have e0 : vals 0 = .int .i64 ((k : Int)) := hv1 0 (by omega) 186 rfl
                    have e1 : vals 1 = .int .i64 ((k : Int)) := hv1 1 (by omega) 187 rfl
                    have e2 : vals 2 = .pointer (some ⟨w.heap.size, k, none⟩) := hv1 2 (by omega) 188 rfl
                    have e3 : vals 3 = .int .u32 (u32i (uw (addTo h t.list k) k)) := hv1 3 (by omega) 189 rfl
                    have e4 : vals 4 = .int .i64 ((k : Int)) := hv1 4 (by omega) 190 rfl
                    have e5 : vals 5 = .pointer (some ⟨gs, k, none⟩) := hv1 5 (by omega) 191 rfl
                    have e6 : vals 6 = .int .u32 (u32i (uw (t).list k)) := hv1 6 (by omega) 192 rfl
                    have e7 : vals 7 = .int .u32 (u32i ((uw (addTo h t.list k) k) + (uw (t).list k))) := hv1 7 (by omega) 193 rfl
                    have e8 : vals 8 = .pointer (some ⟨w.heap.size, k, none⟩) := hv1 8 (by omega) 194 rfl
                    simp only [putAll, Act.put, List.take_succ_cons, List.take_zero, List.drop_succ_cons, List.drop_zero, List.drop_nil, List.take_nil, Nat.reduceAdd, List.setIfInBounds_toArray, List.set_cons_succ, List.set_cons_zero, e0, e1, e2, e3, e4, e5, e6, e7, e8]
                    clear hv1 e0 e1 e2 e3 e4 e5 e6 e7 e8
                    have y1 := (c3.ext hE1).cell (i := k) (by rw [addTo_length, Hh.out]; omega)
                    have y2 := (c3.ext hE1).frozen k
                    go_wp2_with fail
                    go_roundw
                    case rel =>
                      refine ⟨k + 1, by omega, by go_num, ?_, (c6.ext hE1).far (by dsimp only; omega) _, (c12.ext hE1).far (by dsimp only; omega) _, (hEr.trans hE1).set (by dsimp only; omega) _⟩
                      have y3 := (c3.ext hE1).set k (uw (addTo h t.list k) k + uw t.list k)
                      simp only [addTo]
                      exact y3
                    case measure => simp [intOf]; omega
                · obtain rfl : k = 8 := by omega
                  clear hlt hk8
                  go_upto_region 23 with (fail)
                  refine wp_region_lit ?_
                  refine ldrow_law rfl rfl rfl c3 Tryz.underlying100 row8_map ((addTo_length _ _ _).trans Hh.out) ?_
                  go_wp2_with (refine strow_law (l' := addTo h t.list 8) rfl rfl rfl rfl c6 row8_eq (row8_size.trans ((addTo_length _ _ _).trans Hh.out).symm) ((addTo_length _ _ _).trans Hh.out) ?_; intro W8 s8 g8 z8)
                  refine bodyPost_ret (v := .agg (uv (compress h L))) ?_ rfl ⟨rfl, hEr.then_grown g8 (by intro j hj; cases hj; omega)⟩
                  have e : compress h L = addTo h t.list 8 := by rw [Ht.out]; rfl
                  rw [e]
                  exact results_cell_row (fn := Tryz.f60) (p := 6) (ty := 100) rfl _ W8 (w.heap.size + 1) 100 (uv (addTo h t.list 8)) (0, 0) _ rfl s8 Tryz.underlying100 rfl (by rw [row8_map, uv_size, addTo_length, Hh.out])


end Go.Proofs.YtkndgpjamijbbaaGreat

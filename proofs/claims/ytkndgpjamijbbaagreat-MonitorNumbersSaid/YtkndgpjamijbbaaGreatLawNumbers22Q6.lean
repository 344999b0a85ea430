/-
  The reference's Sum, walked: for any bytes it answers their SHA-256, in new memory.
-/
import Derived.Test.YtkndgpjamijbbaaGreatLawNumbers22Q4
namespace Go.Proofs.YtkndgpjamijbbaaGreat
set_option maxRecDepth 100000
open Go Go.RowKit

set_option maxRecDepth 100000 in
set_option maxHeartbeats 1000000 in
theorem constants_any (w : World) : Calls Tryz.prog 59 #[] w fun e w' => e = .returned (.agg (uv shaK)) ∧ Ext w w' := by
  go_enter Tryz.func59, Tryz.ntmps59
  go_upto_region 1 with (fail)
  refine wp_region_lit ?_
  refine pure_law (v := .agg (uv shaK)) rfl (by kernel_rfl) ?_
  refine strow_law (l' := shaK) rfl rfl rfl rfl (Arr.new w 101 (List.replicate 64 0)) row64_eq (row64_size.trans shaK_length.symm) (shaK_length.trans List.length_replicate.symm) ?_
  intro w' h1 h2 h3
  go_wp2_with fail
  refine bodyPost_ret (v := .agg (uv shaK)) ?_ rfl ⟨rfl, (Ext.new w _).then_grown h2 (by intro j hj; cases hj; exact Nat.le_refl _)⟩
  exact results_cell_row (fn := Tryz.f59) (p := 0) (ty := 101) rfl _ w' w.heap.size 101 (uv shaK) (0, 0) _ rfl h1 Tryz.underlying101 rfl (by rw [row64_eq, uv_size]; exact congrArg some row64_size)

/-- what holds at each round of the last blocks -/
def LastBlocks (w : World) (base gk mm c' : Nat) (A' : Option Addr) (M : List UInt8) (H0 : List UInt32) (v : Value) (wr : World) : Prop :=
  ∃ (i d : Nat) (B : Option Addr), i ≤ mm ∧ v = .slice B (64 * mm - 64 * i) d ∧ (∀ wx, OB wx base A' (64 * mm) c' M → RB wx B (64 * mm - 64 * i) d (M.drop (64 * i))) ∧ OB wr base A' (64 * mm) c' M ∧ Arr wr w.heap.size 100 (blocks H0 M i) ∧ Arr wr gk 101 shaK ∧ Ext w wr
theorem comp_len (L M : List UInt8) (j : Nat) : (compress (blocks shaH L j) M).length = 8 := by rw [compress_length, blocks_length]; rfl
set_option maxRecDepth 100000 in
set_option maxHeartbeats 4000000 in
theorem sum_any (A : Option Addr) (n c : Nat) (L : List UInt8) (w : World) (hr : RB w A n c L) (hn : n ≤ 140737488355200) :
    Calls Tryz.prog 35 #[.slice A n c] w fun e w' => ∃ A' c', e = .returned (.slice A' 32 c') ∧ OB w' w.heap.size A' 32 c' (sha L) ∧ Ext w w' := by
  have hln := hr.len
  have Hn := Lib.hid hln
  clear hln
  go_enter Tryz.func35, Tryz.ntmps35
  go_upto_region 1 with (fail)
  refine wp_region_lit ?_
  refine pure_law (v := .agg (uv shaH)) rfl (by kernel_rfl) ?_
  go_wp2_with (refine strow_law (l' := shaH) rfl rfl rfl rfl (Arr.new w 100 (List.replicate 8 0)) row8_eq row8_size rfl ?_; intro W1 b3 g1 z1)
  have hE1 : Ext w W1 := (Ext.new w _).then_grown g1 (by intro k hk; cases hk; exact Nat.le_refl _)
  clear g1 z1
  refine (constants_any W1).mono ?_
  rintro e W2 ⟨rfl, hE2⟩
  go_wp2_with (refine strow_law (l' := shaK) rfl rfl rfl rfl (Arr.new W2 101 (List.replicate 64 0)) row64_eq (row64_size.trans shaK_length.symm) (shaK_length.trans List.length_replicate.symm) ?_; intro W3 bk g3 z3)
  have hE3 : Ext W2 W3 := (Ext.new W2 _).then_grown g3 (by intro k hk; cases hk; exact Nat.le_refl _)
  have hlk : w.heap.size < W2.heap.size := Nat.lt_of_lt_of_le b3.lt hE2.size
  clear g3 z3
  have b3' := (b3.ext hE2).ext hE3
  have hE03 := (hE1.trans hE2).trans hE3
  clear b3 hE1 hE2 hE3
  generalize W2.heap.size = gk at *
  have hroom := hr.room
  have hcap := hr.cap
  unfold maxLen at hcap
  go_loopw [0] (fun b wr => ∃ (j d : Nat) (B : Option Addr), 64 * j ≤ n ∧ b = .slice B (n - 64 * j) d ∧ RB w B (n - 64 * j) d (L.drop (64 * j)) ∧ Arr wr w.heap.size 100 (blocks shaH L j) ∧ Arr wr gk 101 shaK ∧ Ext w wr) (fun b _ => slLen b)
  case atStart => exact ⟨0, c, A, by omega, rfl, hr, b3', bk, hE03⟩
  case round =>
    clear b3' bk hE03
    obtain ⟨j, d, B, hj, rfl, hb, b3, bk, hEr⟩ := hrel
    have hd1 := hb.room
    have hd2 := hb.cap
    by_cases hlt : 64 ≤ n - 64 * j
    · obtain ⟨ad, rfl, hcell⟩ := hb.cells (by omega)
      go_upto_region 5 with (fail)
      refine par_ext (n := 4) (by kernel_rfl) [.is (.agg (uv (blocks shaH L j))), .is (.slice (some ad) (n - 64 * j) (d)), .is (.slice (some ad) (64) (d)), .is (.agg (uv (compress (blocks shaH L j) ((L.drop (64 * j)).take 64))))] rfl ⟨?_, ?_, ?_, ?_, trivial⟩ ?_
      · refine stepE rfl fun sdn sa sw sE sd sk => ?_
        have h3 : sa.eval (.tmp 3) = .pointer (some ⟨w.heap.size, 0, none⟩) := sk.old 3 rfl
        exact Runs.load rfl h3 (run_ldrow (b3.ext sE) Tryz.underlying100 row8_map ((blocks_length _ _ _).trans rfl)) ⟨Ext.refl _, rfl⟩
      · refine stepE rfl fun sdn sa sw sE sd sk => ?_
        have h0 : sa.eval (.tmp 0) = .slice (some ad) (n - 64 * j) (d) := sk.old 0 rfl
        exact Runs.move rfl h0 ⟨Ext.refl _, rfl⟩
      · refine stepE rfl fun sdn sa sw sE sd sk => ?_
        have h18 : sa.eval (.tmp 18) = .slice (some ad) (n - 64 * j) (d) := sk.fact 1 18 rfl (sd 1 rfl)
        exact Runs.slice rfl h18 (by simp only [Option.map_some, Option.map_none]; exact run_cut_h Tryz.underlying26 inf26_eq (64) (by first | rfl | omega) (by omega)) ⟨Ext.refl _, rfl⟩
      · refine stepE rfl fun sdn sa sw sE sd sk => ?_
        have h17 : sa.eval (.tmp 17) = .agg (uv (blocks shaH L j)) := sk.fact 0 17 rfl (sd 0 rfl)
        have h4 : sa.eval (.tmp 4) = .pointer (some ⟨gk, 0, none⟩) := sk.old 4 rfl
        have h19 : sa.eval (.tmp 19) = .slice (some ad) (64) (d) := sk.fact 2 19 rfl (sd 2 rfl)
        refine Runs.call (f := 60) (vs := [.agg (uv (blocks shaH L j)), .pointer (some ⟨gk, 0, none⟩), .slice (some ad) (64) (d)]) rfl rfl rfl (by simp only [List.map_toArray, List.map_cons, List.map_nil, h17, h4, h19] <;> rfl) (ent60 _ _) ((block_any gk d ad (blocks shaH L j) ((L.drop (64 * j)).take 64) sw ((blocks_length _ _ _).trans rfl) (bk.ext sE) (fun i hi => by rw [ub_take hi]; exact cell_at hcell (hEr.trans sE) (by omega)) (by omega) (by omega)).mono ?_); rintro e w' ⟨rfl, hx⟩; exact ⟨_, rfl, hx, rfl⟩
      ·
        intro vals W1 hE1 hv1
        have e0 : vals 0 = .agg (uv (blocks shaH L j)) := hv1 0 (by omega) 17 rfl
        have e1 : vals 1 = .slice (some ad) (n - 64 * j) (d) := hv1 1 (by omega) 18 rfl
        have e2 : vals 2 = .slice (some ad) (64) (d) := hv1 2 (by omega) 19 rfl
        have e3 : vals 3 = .agg (uv (compress (blocks shaH L j) ((L.drop (64 * j)).take 64))) := hv1 3 (by omega) 20 rfl
        simp only [putAll, Act.put, List.take_succ_cons, List.take_zero, List.drop_succ_cons, List.drop_zero, List.drop_nil, List.take_nil, Nat.reduceAdd, List.setIfInBounds_toArray, List.set_cons_succ, List.set_cons_zero, e0, e1, e2, e3]
        clear hv1 e0 e1 e2 e3
        go_wp2_with (refine strow_law (l' := compress (blocks shaH L j) ((L.drop (64 * j)).take 64)) rfl rfl rfl rfl (b3.ext hE1) row8_eq (row8_size.trans (comp_len _ _ _).symm) (compress_length _ _) ?_; intro W4 b4 g4 z4)
        go_roundw
        case rel =>
          refine ⟨j + 1, d - 64, _, by omega, ?_, hb.cut (i := 64) (j := n - 64 * j) (A' := if d = 64 then some ad else some (ad.add 64)) (by omega) (Nat.le_refl _) rfl (fun h => by rw [if_neg (by omega)]; rfl) |>.to_ (by omega) ?_, ?_, (bk.ext hE1).grown g4 (by simp; omega), (hEr.trans hE1).then_grown g4 (by intro k hk; cases hk; exact Nat.le_refl _)⟩
          · rw [show n - 64 * (j + 1) = n - 64 * j - 64 by omega]
            rfl
          · rw [List.take_of_length_le (by rw [hb.len]; exact Nat.le_refl _), List.drop_drop]
            rfl
          · rw [blocks_succ]
            exact b4
        case measure => simp [slLen]; omega
    · go_upto_region 7 with (fail)
      have hr64 : n - 64 * j < 64 := by omega
      generalize hrr : n - 64 * j = r at *
      have Hrr := Lib.hid hrr
      clear hrr hlt
      obtain ⟨R, hR⟩ : ∃ R, R = L.drop (64 * j) := ⟨_, rfl⟩
      rw [← hR] at hb
      have HR := Lib.hid hR
      clear hR
      obtain ⟨W7, hW7⟩ : ∃ W7, W7 = wr := ⟨_, rfl⟩
      rw [← hW7] at b3 bk hEr ⊢
      clear hW7
      have hbr := hb.ext hEr
      have own0 := OB.lit W7 [] rfl (Nat.zero_le _)
      have rd0 := hbr.ext (Ext.new W7 (.cells #[] 5))
      go_wp2_with (first | (refine app_own (N := r) (LM := R) rfl rfl rfl rfl (Ext.new W7 _) own0 rd0 (by omega) rfl (by omega) ?_; intro A1 c1 W8 own1 hE8) | (refine app_own (N := r + 1) (LM := R ++ [0x80]) rfl rfl rfl rfl (hE8.alloc _) (own1.ext (Ext.new W8 _)) (RB.lit W8 [0x80] rfl (small_maxLen (by decide))) rfl rfl (by omega) ?_; intro A2 c2 W9 own2 hE9))
      clear own0 rd0 own1 hE8
      have hp := padZeros_lt n
      go_loopw [6] (fun v wr => ∃ (z c' : Nat) (A' : Option Addr), z ≤ padZeros n ∧ v = .slice A' (r + 1 + z) c' ∧ OB wr W7.heap.size A' (r + 1 + z) c' (R ++ 0x80 :: List.replicate z 0) ∧ Ext W7 wr) (fun v _ => r + 1 + padZeros n - slLen v)
      case atStart => exact ⟨0, c2, A2, by omega, rfl, own2, hE9⟩
      case round =>
        obtain ⟨z, c', A', hz, rfl, own, hEz⟩ := hrel
        have hpz := padZeros_at (j := j) (show n = 64 * j + r by have := Hrr.out; omega) hr64 hz
        have Hpz := Lib.hid hpz
        clear hpz own2 hE9
        by_cases hlt : z = padZeros n
        · subst hlt
          have hb0 : ((((r : Int) + 1 + (padZeros n : Int)) % 64 != 56) = false) := by
            have h2 := Hpz.out.2 rfl
            rw [bne_eq_false_iff_eq]
            omega
          go_wp2_with fail
          clear hb0
          go_loopw [6, 7] (fun v i wr => ∃ (m c' : Nat) (A' : Option Addr), m ≤ 8 ∧ i = .int .i64 (7 - (m : Int)) ∧ v = .slice A' (r + 1 + padZeros n + m) c' ∧ OB wr W7.heap.size A' (r + 1 + padZeros n + m) c' (R ++ 0x80 :: (List.replicate (padZeros n) 0 ++ (be8 (n * 8)).take m)) ∧ Ext W7 wr) (fun _ i _ => (1 + intOf i).toNat)
          case atStart => exact ⟨0, c', A', by omega, rfl, rfl, by simpa using own, hEz⟩
          case round =>
            clear own hEz Hpz hz
            obtain ⟨m, c', A', hm, rfl, rfl, own, hEz⟩ := hrel
            by_cases hlt : m < 8
            · go_upto_region 13 with (fail)
              refine seq_ext (n := 9) (by kernel_rfl) [.is (.slice (A') (r + 1 + padZeros n + m) (c')), .is (.int .i64 ((n : Int))), .is (.int .u64 ((n : Nat) : Int)), .is (.int .u64 ((n * 8 : Nat) : Int)), .is (.int .i64 (7 - (m : Int))), .is (.int .u64 ((7 - m : Nat) : Int)), .is (.int .u64 ((8 * (7 - m) : Nat) : Int)), .is (.int .u64 ((n * 8 / 2 ^ (8 * (7 - m)) : Nat) : Int)), .is (.int .u8 (u8i (UInt8.ofNat (n * 8 / 2 ^ (8 * (7 - m))))))] rfl ⟨?_, ?_, ?_, ?_, ?_, ?_, ?_, ?_, ?_, trivial⟩ ?_
              · refine stepE rfl fun sdn sa sw sE sd sk => ?_
                have h6 : sa.eval (.tmp 6) = .slice (A') (r + 1 + padZeros n + m) (c') := sk.old 6 rfl
                exact Runs.move rfl h6 ⟨Ext.refl _, rfl⟩
              · refine stepE rfl fun sdn sa sw sE sd sk => ?_
                have h5 : sa.eval (.tmp 5) = .int .i64 ((n : Int)) := sk.old 5 rfl
                exact Runs.move rfl h5 ⟨Ext.refl _, rfl⟩
              · refine stepE rfl fun sdn sa sw sE sd sk => ?_
                have h40 : sa.eval (.tmp 40) = .int .i64 ((n : Int)) := sk.fact 1 40 rfl (sd 1 rfl)
                exact Runs.conv rfl h40 (conv_i64_u64 Tryz.underlying3 Tryz.underlying105 _ n rfl (by omega)) ⟨Ext.refl _, rfl⟩
              · refine stepE rfl fun sdn sa sw sE sd sk => ?_
                have h41 : sa.eval (.tmp 41) = .int .u64 ((n : Nat) : Int) := sk.fact 2 41 rfl (sd 2 rfl)
                exact Runs.bin rfl h41 rfl (eqGuard_bin rfl) (bin_mulu64 _ _ _ (n * 8) (by omega) (by omega)) ⟨Ext.refl _, rfl⟩
              · refine stepE rfl fun sdn sa sw sE sd sk => ?_
                have h7 : sa.eval (.tmp 7) = .int .i64 (7 - (m : Int)) := sk.old 7 rfl
                exact Runs.move rfl h7 ⟨Ext.refl _, rfl⟩
              · refine stepE rfl fun sdn sa sw sE sd sk => ?_
                have h43 : sa.eval (.tmp 43) = .int .i64 (7 - (m : Int)) := sk.fact 4 43 rfl (sd 4 rfl)
                exact Runs.conv rfl h43 (conv_i64_u64 Tryz.underlying3 Tryz.underlying95 _ (7 - m) (by omega) (by omega)) ⟨Ext.refl _, rfl⟩
              · refine stepE rfl fun sdn sa sw sE sd sk => ?_
                have h44 : sa.eval (.tmp 44) = .int .u64 ((7 - m : Nat) : Int) := sk.fact 5 44 rfl (sd 5 rfl)
                exact Runs.bin rfl rfl h44 (eqGuard_bin rfl) (bin_mulu64 _ _ _ (8 * (7 - m)) (by omega) (by omega)) ⟨Ext.refl _, rfl⟩
              · refine stepE rfl fun sdn sa sw sE sd sk => ?_
                have h42 : sa.eval (.tmp 42) = .int .u64 ((n * 8 : Nat) : Int) := sk.fact 3 42 rfl (sd 3 rfl)
                have h45 : sa.eval (.tmp 45) = .int .u64 ((8 * (7 - m) : Nat) : Int) := sk.fact 6 45 rfl (sd 6 rfl)
                exact Runs.bin rfl h42 h45 (eqGuard_bin rfl) (bin_shru64 _ _ (n * 8) (8 * (7 - m)) (by omega)) ⟨Ext.refl _, rfl⟩
              · refine stepE rfl fun sdn sa sw sE sd sk => ?_
                have h46 : sa.eval (.tmp 46) = .int .u64 ((n * 8 / 2 ^ (8 * (7 - m)) : Nat) : Int) := sk.fact 7 46 rfl (sd 7 rfl)
                exact Runs.conv rfl h46 (conv_u64_u8 Tryz.underlying105 Tryz.underlying5 _) ⟨Ext.refl _, rfl⟩
              ·
                intro vals W11 hE1 hv1
                have e0 : vals 0 = .slice (A') (r + 1 + padZeros n + m) (c') := hv1 0 (by omega) 39 rfl
                have e1 : vals 1 = .int .i64 ((n : Int)) := hv1 1 (by omega) 40 rfl
                have e2 : vals 2 = .int .u64 ((n : Nat) : Int) := hv1 2 (by omega) 41 rfl
                have e3 : vals 3 = .int .u64 ((n * 8 : Nat) : Int) := hv1 3 (by omega) 42 rfl
                have e4 : vals 4 = .int .i64 (7 - (m : Int)) := hv1 4 (by omega) 43 rfl
                have e5 : vals 5 = .int .u64 ((7 - m : Nat) : Int) := hv1 5 (by omega) 44 rfl
                have e6 : vals 6 = .int .u64 ((8 * (7 - m) : Nat) : Int) := hv1 6 (by omega) 45 rfl
                have e7 : vals 7 = .int .u64 ((n * 8 / 2 ^ (8 * (7 - m)) : Nat) : Int) := hv1 7 (by omega) 46 rfl
                have e8 : vals 8 = .int .u8 (u8i (UInt8.ofNat (n * 8 / 2 ^ (8 * (7 - m))))) := hv1 8 (by omega) 47 rfl
                simp only [putAll, Act.put, List.take_succ_cons, List.take_zero, List.drop_succ_cons, List.drop_zero, List.drop_nil, List.take_nil, Nat.reduceAdd, List.setIfInBounds_toArray, List.set_cons_succ, List.set_cons_zero, e0, e1, e2, e3, e4, e5, e6, e7, e8]
                clear hv1 e0 e1 e2 e3 e4 e5 e6 e7 e8
                have hEw := hEz.trans hE1
                have rd1 := RB.lit W11 [UInt8.ofNat (n * 8 / 2 ^ (8 * (7 - m)))] (n := 1) rfl (small_maxLen (by decide))
                go_wp2_with (refine app_own (N := r + 1 + padZeros n + m + 1) (LM := R ++ 0x80 :: (List.replicate (padZeros n) 0 ++ (be8 (n * 8)).take (m + 1))) rfl rfl rfl rfl (hEw.alloc _) ((own.ext hE1).ext (Ext.new W11 _)) rd1 rfl (by rw [be8_take _ _ hlt]; simp) (by omega) ?_; intro A3 c3 W12 own3 hE12)
                go_roundw
                case rel => exact ⟨m + 1, c3, A3, by omega, by go_num, by rw [Nat.add_assoc], own3.to_ (by omega) rfl, hE12⟩
                case measure => simp [intOf]; omega
            · obtain rfl : m = 8 := by omega
              have Hpad : Hid (R ++ 0x80 :: (List.replicate (padZeros n) 0 ++ (be8 (n * 8)).take 8) = R ++ shaTail L.length) := by
                show _ = _
                rw [Hn.out, List.take_of_length_le (by rw [be8_length]; omega)]
                rfl
              obtain ⟨M, hM⟩ : ∃ M, M = R ++ shaTail L.length := ⟨_, rfl⟩
              rw [Hpad.out, ← hM] at own
              have hlen := own.len
              have HM := Lib.hid hM
              clear hM hlt hm Hpad
              obtain ⟨mm, hmm⟩ : ∃ mm, r + 1 + padZeros n + 8 = 64 * mm := ⟨(r + 1 + padZeros n + 8) / 64, by
                have h1 : n = 64 * j + r := by have := Hrr.out; omega
                unfold padZeros; omega⟩
              have hmm1 : 1 ≤ mm := by omega
              have hmm2 : mm ≤ 3 := by omega
              rw [hmm] at own hlen ⊢
              have Hmm := Lib.hid hmm
              have Hlen := Lib.hid hlen
              clear hmm hlen
              have rdM := own.rb
              have hEwr := hEr.trans hEz
              have b3' := b3.ext hEz
              have bk' := bk.ext hEz
              have hg3 := b3'.lt
              have hg7 := b3.lt
              obtain ⟨H0, hH0⟩ : ∃ H0, H0 = blocks shaH L j := ⟨_, rfl⟩
              rw [← hH0] at b3'
              have HH : Hid (H0.length = 8) := by
                show _ = _
                rw [hH0, blocks_length]
                rfl
              have HH0 := Lib.hid hH0
              clear hH0 b3 bk hbr
              go_wp2_with fail
              go_loopw [6] (fun v wr => LastBlocks w W7.heap.size gk mm c' A' M H0 v wr) (fun v _ => slLen v)
              case atStart => exact ⟨0, c', A', by omega, rfl, fun wx h => h.rb, own, b3', bk', hEwr⟩
              case round =>
                clear own b3' bk' hEwr rdM hEz
                obtain ⟨i, d, B, hi, rfl, hsub, own, b3, bk, hEr⟩ := hrel
                have hb := hsub _ own
                have hd1 := hb.room
                have hd2 := hb.cap
                by_cases hlt : i < mm
                · obtain ⟨ad, rfl, hcell⟩ := hb.cells (by omega)
                  have hpos : 0 < 64 * mm - 64 * i := by omega
                  go_upto_region 15 with (fail)
                  refine par_ext (n := 4) (by kernel_rfl) [.is (.agg (uv (blocks H0 M i))), .is (.slice (some ad) (64 * mm - 64 * i) (d)), .is (.slice (some ad) (64) (d)), .is (.agg (uv (compress (blocks H0 M i) ((M.drop (64 * i)).take 64))))] rfl ⟨?_, ?_, ?_, ?_, trivial⟩ ?_
                  · refine stepE rfl fun sdn sa sw sE sd sk => ?_
                    have h3 : sa.eval (.tmp 3) = .pointer (some ⟨w.heap.size, 0, none⟩) := sk.old 3 rfl
                    exact Runs.load rfl h3 (run_ldrow (b3.ext sE) Tryz.underlying100 row8_map ((blocks_length _ _ _).trans HH.out)) ⟨Ext.refl _, rfl⟩
                  · refine stepE rfl fun sdn sa sw sE sd sk => ?_
                    have h6 : sa.eval (.tmp 6) = .slice (some ad) (64 * mm - 64 * i) (d) := sk.old 6 rfl
                    exact Runs.move rfl h6 ⟨Ext.refl _, rfl⟩
                  · refine stepE rfl fun sdn sa sw sE sd sk => ?_
                    have h54 : sa.eval (.tmp 54) = .slice (some ad) (64 * mm - 64 * i) (d) := sk.fact 1 54 rfl (sd 1 rfl)
                    exact Runs.slice rfl h54 (by simp only [Option.map_some, Option.map_none]; exact run_cut_h Tryz.underlying26 inf26_eq (64) (by first | rfl | omega) (by omega)) ⟨Ext.refl _, rfl⟩
                  · refine stepE rfl fun sdn sa sw sE sd sk => ?_
                    have h53 : sa.eval (.tmp 53) = .agg (uv (blocks H0 M i)) := sk.fact 0 53 rfl (sd 0 rfl)
                    have h4 : sa.eval (.tmp 4) = .pointer (some ⟨gk, 0, none⟩) := sk.old 4 rfl
                    have h55 : sa.eval (.tmp 55) = .slice (some ad) (64) (d) := sk.fact 2 55 rfl (sd 2 rfl)
                    refine Runs.call (f := 60) (vs := [.agg (uv (blocks H0 M i)), .pointer (some ⟨gk, 0, none⟩), .slice (some ad) (64) (d)]) rfl rfl rfl (by simp only [List.map_toArray, List.map_cons, List.map_nil, h53, h4, h55] <;> rfl) (ent60 _ _) ((block_any gk d ad (blocks H0 M i) ((M.drop (64 * i)).take 64) sw ((blocks_length _ _ _).trans HH.out) (bk.ext sE) (fun i hi => by rw [ub_take hi]; exact cell_at hcell sE (by omega)) (by omega) (by omega)).mono ?_); rintro e w' ⟨rfl, hx⟩; exact ⟨_, rfl, hx, rfl⟩
                  ·
                    intro vals W12 hE1 hv1
                    have e0 : vals 0 = .agg (uv (blocks H0 M i)) := hv1 0 (by omega) 53 rfl
                    have e1 : vals 1 = .slice (some ad) (64 * mm - 64 * i) (d) := hv1 1 (by omega) 54 rfl
                    have e2 : vals 2 = .slice (some ad) (64) (d) := hv1 2 (by omega) 55 rfl
                    have e3 : vals 3 = .agg (uv (compress (blocks H0 M i) ((M.drop (64 * i)).take 64))) := hv1 3 (by omega) 56 rfl
                    simp only [putAll, Act.put, List.take_succ_cons, List.take_zero, List.drop_succ_cons, List.drop_zero, List.drop_nil, List.take_nil, Nat.reduceAdd, List.setIfInBounds_toArray, List.set_cons_succ, List.set_cons_zero, e0, e1, e2, e3]
                    clear hv1 e0 e1 e2 e3
                    go_wp2_with (refine strow_law (l' := compress (blocks H0 M i) ((M.drop (64 * i)).take 64)) rfl rfl rfl rfl (b3.ext hE1) row8_eq (row8_size.trans ((compress_length _ _).trans ((blocks_length _ _ _).trans HH.out)).symm) (compress_length _ _) ?_; intro W13 b4 g4 z4)
                    all_goals
                      go_roundw
                      case rel =>
                        refine ⟨i + 1, d - 64, _, by omega, ?_, fun wx h => ((hsub wx h).cut (i := 64) (j := 64 * mm - 64 * i) (A' := if d = 64 then some ad else some (ad.add 64)) (by omega) (Nat.le_refl _) rfl (fun h => by rw [if_neg (by omega)]; rfl)).to_ (by omega) (drop_cut Hlen.out), (own.ext hE1).grown g4 (own.not_blk hg7), ?_, (bk.ext hE1).grown g4 (by simp; omega), (hEr.trans hE1).then_grown g4 (by intro k hk; cases hk; exact Nat.le_refl _)⟩
                        · rw [show 64 * mm - 64 * (i + 1) = 64 * mm - 64 * i - 64 by omega]
                          first | (rename d = 64 => hq; simp [hq]; done) | (rename ¬d = 64 => hq; simp [hq, Addr.add]; done)
                        · rw [blocks_succ]
                          exact b4
                      case measure => simp [slLen]; omega
                · obtain rfl : i = mm := by omega
                  have hz : ¬ ((0 : Int) < ((64 * i - 64 * i : Nat) : Int)) := by omega
                  clear hlt
                  go_wp2_with fail
                  obtain ⟨hs, hhs⟩ : ∃ hs, hs = blocks H0 M i := ⟨_, rfl⟩
                  rw [← hhs] at b3
                  have hsum : sha L = hs.flatMap bytesOf := by
                    have hj' : 64 * j ≤ L.length := by rw [Hn.out]; exact hj
                    have hM := HM.out
                    rw [HR.out] at hM
                    rw [sha_parts L j i hj' (by rw [← hM]; exact Hlen.out), ← hM, hhs, HH0.out]
                  have hl8 : hs.length = 8 := by rw [hhs, blocks_length]; exact HH.out
                  have Hsum := Lib.hid hsum
                  clear HH
                  have HH := Lib.hid hl8
                  clear hsum hhs hl8 hsub own hb bk HH0 Hmm HM Hlen HR Hrr
                  obtain ⟨W14, hW14⟩ : ∃ W, W = wr := ⟨_, rfl⟩
                  rw [← hW14] at b3 hEr ⊢
                  clear hW14
                  go_loopw [8, 9] (fun v k wr => ∃ (kk d : Nat) (B : Option Addr), kk ≤ 8 ∧ k = .int .i64 kk ∧ v = .slice B (4 * kk) d ∧ OB wr W14.heap.size B (4 * kk) d ((hs.take kk).flatMap bytesOf) ∧ Ext W14 wr) (fun _ k _ => 8 - (intOf k).toNat)
                  case atStart => exact ⟨0, 0, none, by omega, rfl, rfl, OB.none_ _ _, Ext.refl _⟩
                  case round =>
                    obtain ⟨k, d, B, hk8, rfl, rfl, own, hE14⟩ := hrel
                    by_cases hlt : k < 8
                    · go_upto_region 21 with (fail)
                      refine par_ext (n := 21) (by kernel_rfl) [.is (.slice (B) (4 * k) (d)), .is (.int .i64 ((k : Int))), .is (.pointer (some ⟨w.heap.size, k, none⟩)), .is (.int .u32 (u32i (uw hs k))), .is (.int .u32 (u32i (shr (uw hs k) 24))), .is (.int .u8 (u8i ((shr (uw hs k) 24)).toUInt8)), .is (.int .i64 ((k : Int))), .is (.pointer (some ⟨w.heap.size, k, none⟩)), .is (.int .u32 (u32i (uw hs k))), .is (.int .u32 (u32i (shr (uw hs k) 16))), .is (.int .u8 (u8i ((shr (uw hs k) 16)).toUInt8)), .is (.int .i64 ((k : Int))), .is (.pointer (some ⟨w.heap.size, k, none⟩)), .is (.int .u32 (u32i (uw hs k))), .is (.int .u32 (u32i (shr (uw hs k) 8))), .is (.int .u8 (u8i ((shr (uw hs k) 8)).toUInt8)), .is (.int .i64 ((k : Int))), .is (.pointer (some ⟨w.heap.size, k, none⟩)), .is (.int .u32 (u32i (uw hs k))), .is (.int .u8 (u8i ((uw hs k)).toUInt8)), .rb ([((shr (uw hs k) 24)).toUInt8, ((shr (uw hs k) 16)).toUInt8, ((shr (uw hs k) 8)).toUInt8, ((uw hs k)).toUInt8])] rfl ⟨?_, ?_, ?_, ?_, ?_, ?_, ?_, ?_, ?_, ?_, ?_, ?_, ?_, ?_, ?_, ?_, ?_, ?_, ?_, ?_, ?_, trivial⟩ ?_
                      · refine stepE rfl fun sdn sa sw sE sd sk => ?_
                        have h8 : sa.eval (.tmp 8) = .slice (B) (4 * k) (d) := sk.old 8 rfl
                        exact Runs.move rfl h8 ⟨Ext.refl _, rfl⟩
                      · refine stepE rfl fun sdn sa sw sE sd sk => ?_
                        have h9 : sa.eval (.tmp 9) = .int .i64 ((k : Int)) := sk.old 9 rfl
                        exact Runs.move rfl h9 ⟨Ext.refl _, rfl⟩
                      · refine stepE rfl fun sdn sa sw sE sd sk => ?_
                        have h3 : sa.eval (.tmp 3) = .pointer (some ⟨w.heap.size, 0, none⟩) := sk.old 3 rfl
                        have h64 : sa.eval (.tmp 64) = .int .i64 ((k : Int)) := sk.fact 1 64 rfl (sd 1 rfl)
                        exact Runs.idx rfl h3 h64 (run_idx_arr1 Tryz.underlying100 inf100_eq inf100_size (k) (by omega) (by omega)) ⟨Ext.refl _, rfl⟩
                      · refine stepE rfl fun sdn sa sw sE sd sk => ?_
                        have h65 : sa.eval (.tmp 65) = .pointer (some ⟨w.heap.size, k, none⟩) := sk.fact 2 65 rfl (sd 2 rfl)
                        exact Runs.load rfl h65 (run_load1 Tryz.underlying56 rfl (((b3.ext hE14).ext sE).cell (by rw [HH.out]; omega))) ⟨Ext.refl _, rfl⟩
                      · refine stepE rfl fun sdn sa sw sE sd sk => ?_
                        have h66 : sa.eval (.tmp 66) = .int .u32 (u32i (uw hs k)) := sk.fact 3 66 rfl (sd 3 rfl)
                        exact Runs.bin rfl h66 rfl (eqGuard_bin rfl) (bin_shr32 _ _ 24 _) ⟨Ext.refl _, rfl⟩
                      · refine stepE rfl fun sdn sa sw sE sd sk => ?_
                        have h67 : sa.eval (.tmp 67) = .int .u32 (u32i (shr (uw hs k) 24)) := sk.fact 4 67 rfl (sd 4 rfl)
                        exact Runs.conv rfl h67 (conv_u32_u8 Tryz.underlying56 Tryz.underlying5 _) ⟨Ext.refl _, rfl⟩
                      · refine stepE rfl fun sdn sa sw sE sd sk => ?_
                        have h9 : sa.eval (.tmp 9) = .int .i64 ((k : Int)) := sk.old 9 rfl
                        exact Runs.move rfl h9 ⟨Ext.refl _, rfl⟩
                      · refine stepE rfl fun sdn sa sw sE sd sk => ?_
                        have h3 : sa.eval (.tmp 3) = .pointer (some ⟨w.heap.size, 0, none⟩) := sk.old 3 rfl
                        have h69 : sa.eval (.tmp 69) = .int .i64 ((k : Int)) := sk.fact 6 69 rfl (sd 6 rfl)
                        exact Runs.idx rfl h3 h69 (run_idx_arr1 Tryz.underlying100 inf100_eq inf100_size (k) (by omega) (by omega)) ⟨Ext.refl _, rfl⟩
                      · refine stepE rfl fun sdn sa sw sE sd sk => ?_
                        have h70 : sa.eval (.tmp 70) = .pointer (some ⟨w.heap.size, k, none⟩) := sk.fact 7 70 rfl (sd 7 rfl)
                        exact Runs.load rfl h70 (run_load1 Tryz.underlying56 rfl (((b3.ext hE14).ext sE).cell (by rw [HH.out]; omega))) ⟨Ext.refl _, rfl⟩
                      · refine stepE rfl fun sdn sa sw sE sd sk => ?_
                        have h71 : sa.eval (.tmp 71) = .int .u32 (u32i (uw hs k)) := sk.fact 8 71 rfl (sd 8 rfl)
                        exact Runs.bin rfl h71 rfl (eqGuard_bin rfl) (bin_shr32 _ _ 16 _) ⟨Ext.refl _, rfl⟩
                      · refine stepE rfl fun sdn sa sw sE sd sk => ?_
                        have h72 : sa.eval (.tmp 72) = .int .u32 (u32i (shr (uw hs k) 16)) := sk.fact 9 72 rfl (sd 9 rfl)
                        exact Runs.conv rfl h72 (conv_u32_u8 Tryz.underlying56 Tryz.underlying5 _) ⟨Ext.refl _, rfl⟩
                      · refine stepE rfl fun sdn sa sw sE sd sk => ?_
                        have h9 : sa.eval (.tmp 9) = .int .i64 ((k : Int)) := sk.old 9 rfl
                        exact Runs.move rfl h9 ⟨Ext.refl _, rfl⟩
                      · refine stepE rfl fun sdn sa sw sE sd sk => ?_
                        have h3 : sa.eval (.tmp 3) = .pointer (some ⟨w.heap.size, 0, none⟩) := sk.old 3 rfl
                        have h74 : sa.eval (.tmp 74) = .int .i64 ((k : Int)) := sk.fact 11 74 rfl (sd 11 rfl)
                        exact Runs.idx rfl h3 h74 (run_idx_arr1 Tryz.underlying100 inf100_eq inf100_size (k) (by omega) (by omega)) ⟨Ext.refl _, rfl⟩
                      · refine stepE rfl fun sdn sa sw sE sd sk => ?_
                        have h75 : sa.eval (.tmp 75) = .pointer (some ⟨w.heap.size, k, none⟩) := sk.fact 12 75 rfl (sd 12 rfl)
                        exact Runs.load rfl h75 (run_load1 Tryz.underlying56 rfl (((b3.ext hE14).ext sE).cell (by rw [HH.out]; omega))) ⟨Ext.refl _, rfl⟩
                      · refine stepE rfl fun sdn sa sw sE sd sk => ?_
                        have h76 : sa.eval (.tmp 76) = .int .u32 (u32i (uw hs k)) := sk.fact 13 76 rfl (sd 13 rfl)
                        exact Runs.bin rfl h76 rfl (eqGuard_bin rfl) (bin_shr32 _ _ 8 _) ⟨Ext.refl _, rfl⟩
                      · refine stepE rfl fun sdn sa sw sE sd sk => ?_
                        have h77 : sa.eval (.tmp 77) = .int .u32 (u32i (shr (uw hs k) 8)) := sk.fact 14 77 rfl (sd 14 rfl)
                        exact Runs.conv rfl h77 (conv_u32_u8 Tryz.underlying56 Tryz.underlying5 _) ⟨Ext.refl _, rfl⟩
                      · refine stepE rfl fun sdn sa sw sE sd sk => ?_
                        have h9 : sa.eval (.tmp 9) = .int .i64 ((k : Int)) := sk.old 9 rfl
                        exact Runs.move rfl h9 ⟨Ext.refl _, rfl⟩
                      · refine stepE rfl fun sdn sa sw sE sd sk => ?_
                        have h3 : sa.eval (.tmp 3) = .pointer (some ⟨w.heap.size, 0, none⟩) := sk.old 3 rfl
                        have h79 : sa.eval (.tmp 79) = .int .i64 ((k : Int)) := sk.fact 16 79 rfl (sd 16 rfl)
                        exact Runs.idx rfl h3 h79 (run_idx_arr1 Tryz.underlying100 inf100_eq inf100_size (k) (by omega) (by omega)) ⟨Ext.refl _, rfl⟩
                      · refine stepE rfl fun sdn sa sw sE sd sk => ?_
                        have h80 : sa.eval (.tmp 80) = .pointer (some ⟨w.heap.size, k, none⟩) := sk.fact 17 80 rfl (sd 17 rfl)
                        exact Runs.load rfl h80 (run_load1 Tryz.underlying56 rfl (((b3.ext hE14).ext sE).cell (by rw [HH.out]; omega))) ⟨Ext.refl _, rfl⟩
                      · refine stepE rfl fun sdn sa sw sE sd sk => ?_
                        have h81 : sa.eval (.tmp 81) = .int .u32 (u32i (uw hs k)) := sk.fact 18 81 rfl (sd 18 rfl)
                        exact Runs.conv rfl h81 (conv_u32_u8 Tryz.underlying56 Tryz.underlying5 _) ⟨Ext.refl _, rfl⟩
                      · refine stepE rfl fun sdn sa sw sE sd sk => ?_
                        have h68 : sa.eval (.tmp 68) = .int .u8 (u8i ((shr (uw hs k) 24)).toUInt8) := sk.fact 5 68 rfl (sd 5 rfl)
                        have h73 : sa.eval (.tmp 73) = .int .u8 (u8i ((shr (uw hs k) 16)).toUInt8) := sk.fact 10 73 rfl (sd 10 rfl)
                        have h78 : sa.eval (.tmp 78) = .int .u8 (u8i ((shr (uw hs k) 8)).toUInt8) := sk.fact 15 78 rfl (sd 15 rfl)
                        have h82 : sa.eval (.tmp 82) = .int .u8 (u8i ((uw hs k)).toUInt8) := sk.fact 19 82 rfl (sd 19 rfl)
                        exact Runs.lit4 rfl h68 h73 h78 h82 (fun w1 e1 o1 => ⟨e1, _, _, _, rfl, o1.rb⟩)
                      ·
                        intro vals W15 hE1 hv1
                        have e0 : vals 0 = .slice (B) (4 * k) (d) := hv1 0 (by omega) 63 rfl
                        have e1 : vals 1 = .int .i64 ((k : Int)) := hv1 1 (by omega) 64 rfl
                        have e2 : vals 2 = .pointer (some ⟨w.heap.size, k, none⟩) := hv1 2 (by omega) 65 rfl
                        have e3 : vals 3 = .int .u32 (u32i (uw hs k)) := hv1 3 (by omega) 66 rfl
                        have e4 : vals 4 = .int .u32 (u32i (shr (uw hs k) 24)) := hv1 4 (by omega) 67 rfl
                        have e5 : vals 5 = .int .u8 (u8i ((shr (uw hs k) 24)).toUInt8) := hv1 5 (by omega) 68 rfl
                        have e6 : vals 6 = .int .i64 ((k : Int)) := hv1 6 (by omega) 69 rfl
                        have e7 : vals 7 = .pointer (some ⟨w.heap.size, k, none⟩) := hv1 7 (by omega) 70 rfl
                        have e8 : vals 8 = .int .u32 (u32i (uw hs k)) := hv1 8 (by omega) 71 rfl
                        have e9 : vals 9 = .int .u32 (u32i (shr (uw hs k) 16)) := hv1 9 (by omega) 72 rfl
                        have e10 : vals 10 = .int .u8 (u8i ((shr (uw hs k) 16)).toUInt8) := hv1 10 (by omega) 73 rfl
                        have e11 : vals 11 = .int .i64 ((k : Int)) := hv1 11 (by omega) 74 rfl
                        have e12 : vals 12 = .pointer (some ⟨w.heap.size, k, none⟩) := hv1 12 (by omega) 75 rfl
                        have e13 : vals 13 = .int .u32 (u32i (uw hs k)) := hv1 13 (by omega) 76 rfl
                        have e14 : vals 14 = .int .u32 (u32i (shr (uw hs k) 8)) := hv1 14 (by omega) 77 rfl
                        have e15 : vals 15 = .int .u8 (u8i ((shr (uw hs k) 8)).toUInt8) := hv1 15 (by omega) 78 rfl
                        have e16 : vals 16 = .int .i64 ((k : Int)) := hv1 16 (by omega) 79 rfl
                        have e17 : vals 17 = .pointer (some ⟨w.heap.size, k, none⟩) := hv1 17 (by omega) 80 rfl
                        have e18 : vals 18 = .int .u32 (u32i (uw hs k)) := hv1 18 (by omega) 81 rfl
                        have e19 : vals 19 = .int .u8 (u8i ((uw hs k)).toUInt8) := hv1 19 (by omega) 82 rfl
                        obtain ⟨A83, n83, c83, e20, r83⟩ := hv1 20 (by omega) 83 rfl
                        simp only [putAll, Act.put, List.take_succ_cons, List.take_zero, List.drop_succ_cons, List.drop_zero, List.drop_nil, List.take_nil, Nat.reduceAdd, List.setIfInBounds_toArray, List.set_cons_succ, List.set_cons_zero, e0, e1, e2, e3, e4, e5, e6, e7, e8, e9, e10, e11, e12, e13, e14, e15, e16, e17, e18, e19, e20]
                        clear hv1 e0 e1 e2 e3 e4 e5 e6 e7 e8 e9 e10 e11 e12 e13 e14 e15 e16 e17 e18 e19 e20
                        have hEw := hE14.trans hE1
                        have rd1 : RB W15 A83 n83 c83 (bytesOf (uw hs k)) := r83
                        obtain rfl : n83 = 4 := rd1.len.symm
                        go_wp2_with (refine app_own (N := 4 * k + 4) (LM := (hs.take (k + 1)).flatMap bytesOf) rfl rfl rfl rfl hEw (own.ext hE1) rd1 rfl (flatMap_take_succ hs k (by rw [HH.out]; exact hlt)).symm (by omega) ?_; intro A3 c3 W16 own3 hE16)
                        go_roundw
                        case rel => exact ⟨k + 1, c3, A3, by omega, by go_num, rfl, own3, hE16⟩
                        case measure => simp [intOf]; omega
                    · obtain rfl : k = 8 := by omega
                      clear hlt
                      rw [List.take_of_length_le (by rw [HH.out]; exact Nat.le_refl _), ← Hsum.out] at own
                      go_wp2_with fail
                      go_ret
                      exact ⟨B, d, rfl, own.base hEr.size, hEr.trans hE14⟩
        · have hb0 : ((((r : Int) + 1 + (z : Int)) % 64 != 56) = true) := by
            have h2 : ¬ (r + 1 + z) % 64 = 56 := fun e => hlt (Hpz.out.1 e)
            rw [bne_iff_ne]
            omega
          go_wp2_with (refine app_own (N := r + 1 + z + 1) (LM := R ++ 0x80 :: List.replicate (z + 1) 0) rfl rfl rfl rfl (hEz.alloc _) (own.ext (Ext.new wr _)) (RB.lit wr [0] rfl (small_maxLen (by decide))) rfl (by rw [List.replicate_succ', List.append_assoc]; rfl) (by omega) ?_; intro A3 c3 W10 own3 hE10)
          clear hb0
          go_roundw
          case rel => exact ⟨z + 1, c3, A3, by omega, rfl, own3, hE10⟩
          case measure => simp only [slLen]; omega


end Go.Proofs.YtkndgpjamijbbaaGreat
